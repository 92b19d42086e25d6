/- Plain facts: how a text of words is cut, how a small number reads, by whom a text is written. No walk. -/
import Derived.Lib.Split
import Derived.Lib.CutLaws
import Derived.Lib.CountLaws
import Derived.Lib.IndexBytes
import Derived.Lib.ParseIntB
import Derived.Test.YtpmeaikiaoojkaaDoorT3
namespace Go.Proofs.YtpmeaikiaoojkaaDoor

def noSp (s : ByteArray) : Prop := (32 : UInt8) ∉ s.data.toList
def spB : ByteArray := ⟨#[32]⟩
def joinS : List ByteArray → ByteArray
  | [] => ByteArray.empty
  | [x] => x
  | x :: y :: r => x ++ spB ++ joinS (y :: r)
theorem idxB_join : ∀ (p r : List UInt8), (32 : UInt8) ∉ p → Lib.indexByte (p ++ 32 :: r) 32 = (p.length : Int)
  | [], r, _ => by simp [Lib.indexByte]
  | c :: p, r, h => by
    have h1 : ¬ c = 32 := fun e => h (by simp [e])
    have h2 := idxB_join p r (fun e => h (by simp [e]))
    rw [List.cons_append, Lib.indexByte, h2]
    simp [h1]
theorem idxB_none : ∀ (p : List UInt8), (32 : UInt8) ∉ p → Lib.indexByte p 32 = -1
  | [], _ => rfl
  | c :: p, h => by
    have h1 : ¬ c = 32 := fun e => h (by simp [e])
    have h2 := idxB_none p (fun e => h (by simp [e]))
    rw [Lib.indexByte, h2]
    simp [h1]
theorem index_sp (s : ByteArray) : Lib.indexB s spB = Lib.indexByte s.data.toList 32 := Lib.index_one s.data.toList 32
theorem idx_join {p r : ByteArray} (h : noSp p) : Lib.indexB (p ++ spB ++ r) spB = (p.size : Int) := by
  rw [index_sp]
  have e : (p ++ spB ++ r).data.toList = p.data.toList ++ 32 :: r.data.toList := by simp [spB]
  rw [e, idxB_join _ _ h]
  show ((p.data.toList.length : Nat) : Int) = ((p.data.size : Nat) : Int)
  rw [Array.length_toList]
theorem idx_none {p : ByteArray} (h : noSp p) : Lib.indexB p spB = -1 := by rw [index_sp, idxB_none _ h]
theorem ext_left (p q r : ByteArray) : (p ++ q ++ r).extract 0 p.size = p := by
  have hs : p.size = p.data.toList.length := by rw [Array.length_toList]; rfl
  rw [Lib.extract_eq, List.drop_zero, hs]
  apply ByteArray.ext
  simp
theorem ext_right (p r : ByteArray) : (p ++ spB ++ r).extract (p.size + spB.size) (p ++ spB ++ r).size = r := by
  apply ByteArray.ext
  apply Array.ext'
  simp only [ByteArray.data_extract, ByteArray.data_append, Array.toList_extract, Array.toList_append, ByteArray.size, Array.size_append, List.extract_eq_take_drop]
  rw [List.take_of_length_le (by simp; omega), List.drop_append_of_le_length (by simp [spB])]
  simp [spB]
theorem split_join : ∀ (ps : List ByteArray), ps ≠ [] → (∀ p ∈ ps, noSp p) → Lib.countB (joinS ps) spB + 1 = ps.length ∧ Lib.splitB spB 0 (Lib.countB (joinS ps) spB) (joinS ps) = ps
  | [], h, _ => absurd rfl h
  | [x], _, h => by
    have hx := idx_none (h x (by simp))
    show Lib.countB x spB + 1 = 1 ∧ Lib.splitB spB 0 (Lib.countB x spB) x = [x]
    rw [Lib.countB_miss _ _ hx, Lib.splitB_miss _ _ _ _ hx]
    exact ⟨rfl, rfl⟩
  | x :: y :: r, _, h => by
    obtain ⟨h1, h2⟩ := split_join (y :: r) (by simp) (fun p hp => h p (List.mem_cons_of_mem _ hp))
    have hx := idx_join (r := joinS (y :: r)) (h x (by simp))
    show Lib.countB (x ++ spB ++ joinS (y :: r)) spB + 1 = _ ∧ Lib.splitB spB 0 (Lib.countB (x ++ spB ++ joinS (y :: r)) spB) (x ++ spB ++ joinS (y :: r)) = _
    rw [Lib.countB_hit _ _ _ (by decide) hx, ext_right, Nat.add_comm 1, Lib.splitB_hit _ _ _ _ _ hx, ext_right, Nat.add_zero x.size, ext_left, h2]
    exact ⟨by simpa using h1, rfl⟩
/-! ### the reference's cut -/
def cutL : List UInt8 → List UInt8 → List (List UInt8)
  | acc, [] => [acc]
  | acc, c :: r => if c = 32 then acc :: cutL [] r else cutL (acc ++ [c]) r
theorem cutL_join : ∀ (p acc r : List UInt8), (32 : UInt8) ∉ p → cutL acc (p ++ 32 :: r) = (acc ++ p) :: cutL [] r
  | [], acc, r, _ => by simp [cutL]
  | c :: p, acc, r, h => by
    have h1 : ¬ c = 32 := fun e => h (by simp [e])
    rw [List.cons_append, cutL, if_neg h1, cutL_join p (acc ++ [c]) r (fun e => h (by simp [e]))]
    simp
theorem cutL_none : ∀ (p acc : List UInt8), (32 : UInt8) ∉ p → cutL acc p = [acc ++ p]
  | [], acc, _ => by simp [cutL]
  | c :: p, acc, h => by
    have h1 : ¬ c = 32 := fun e => h (by simp [e])
    rw [cutL, if_neg h1, cutL_none p (acc ++ [c]) (fun e => h (by simp [e]))]
    simp
def cutS (s : ByteArray) : List ByteArray := (cutL [] s.data.toList).map fun l => ⟨l.toArray⟩
theorem cut_join : ∀ (ps : List ByteArray), ps ≠ [] → (∀ p ∈ ps, noSp p) → cutS (joinS ps) = ps
  | [], h, _ => absurd rfl h
  | [x], _, h => by
    show cutS x = [x]
    rw [cutS, cutL_none _ _ (h x (by simp))]
    simp
  | x :: y :: r, _, h => by
    have ih := cut_join (y :: r) (by simp) (fun p hp => h p (List.mem_cons_of_mem _ hp))
    show cutS (x ++ spB ++ joinS (y :: r)) = _
    have e : (x ++ spB ++ joinS (y :: r)).data.toList = x.data.toList ++ 32 :: (joinS (y :: r)).data.toList := by simp [spB]
    rw [cutS, e, cutL_join _ _ _ (h x (by simp)), List.map_cons]
    rw [cutS] at ih
    rw [ih]
    simp
theorem cutL_ne : ∀ (l acc : List UInt8), cutL acc l ≠ []
  | [], acc => by simp [cutL]
  | c :: r, acc => by
    rw [cutL]; split
    · simp
    · exact cutL_ne r _
theorem cutS_ne (s : ByteArray) : cutS s ≠ [] := by simp [cutS, cutL_ne]
/-! ### digits -/
def dstep (a : Nat) (c : UInt8) : Nat := a * 10 + (c.toNat - 48)
def dval (l : List UInt8) : Nat := l.foldl dstep 0
def digits (l : List UInt8) : Prop := ∀ c ∈ l, 48 ≤ c.toNat ∧ c.toNat ≤ 57
theorem dig_toNat {d : Nat} (h : d < 10) : (UInt8.ofNat (48 + d)).toNat = 48 + d := by
  rw [UInt8.toNat_ofNat_of_lt' (by show 48 + d < 256; omega)]
theorem dval_dec : ∀ (f u : Nat), u < f → dval (Lib.decDigits u) = u ∧ digits (Lib.decDigits u)
  | 0, u, h => by omega
  | f + 1, u, h => by
    rw [Lib.decDigits]
    split
    · rename_i hu
      refine ⟨by simp only [dval, dstep, List.foldl_cons, List.foldl_nil, dig_toNat hu]; omega, fun c hc => ?_⟩
      simp only [List.mem_singleton] at hc
      rw [hc, dig_toNat hu]; omega
    · rename_i hu
      obtain ⟨h1, h2⟩ := dval_dec f (u / 10) (by omega)
      refine ⟨?_, fun c hc => ?_⟩
      · unfold dval at h1 ⊢
        rw [List.foldl_append, h1]
        simp only [List.foldl_cons, List.foldl_nil, dstep]
        rw [dig_toNat (Nat.mod_lt _ (by omega))]
        omega
      · rcases List.mem_append.1 hc with hc | hc
        · exact h2 c hc
        · simp only [List.mem_singleton] at hc
          rw [hc, dig_toNat (Nat.mod_lt _ (by omega))]; omega
theorem dval_decDigits (u : Nat) : dval (Lib.decDigits u) = u := (dval_dec (u + 1) u (by omega)).1
theorem digits_decDigits (u : Nat) : digits (Lib.decDigits u) := (dval_dec (u + 1) u (by omega)).2
theorem head_dec : ∀ (f u : Nat), u < f → 1 ≤ u → ∃ c r, Lib.decDigits u = c :: r ∧ 49 ≤ c.toNat
  | 0, u, h, _ => by omega
  | f + 1, u, h, h1 => by
    rw [Lib.decDigits]
    split
    · rename_i hu
      exact ⟨_, _, rfl, by rw [dig_toNat hu]; omega⟩
    · rename_i hu
      obtain ⟨c, r, e, hc⟩ := head_dec f (u / 10) (by omega) (by omega)
      exact ⟨c, r ++ [UInt8.ofNat (48 + u % 10)], by rw [e]; rfl, hc⟩
theorem sp_eq : sp = spB := rfl
def piecesOf (j : Nat) (key hi : ByteArray) (num : Int) (a b c : Bool) : List ByteArray :=
  word j :: ((if a = true then [key] else []) ++ ((if b = true then [hi] else []) ++ (if c = true then [dec num] else [])))
theorem catT_join (j : Nat) (key hi : ByteArray) (num : Int) (a b c : Bool) : catT j key hi num a b c = joinS (piecesOf j key hi num a b c) := by
  cases a <;> cases b <;> cases c <;> simp [catT, addS, piecesOf, joinS, sp_eq, ByteArray.append_assoc]
theorem noSp_word {j : Nat} (h : j < 9) : noSp (word j) := by
  have hc : j = 0 ∨ j = 1 ∨ j = 2 ∨ j = 3 ∨ j = 4 ∨ j = 5 ∨ j = 6 ∨ j = 7 ∨ j = 8 := by omega
  unfold noSp
  rcases hc with rfl | rfl | rfl | rfl | rfl | rfl | rfl | rfl | rfl <;> decide
theorem noSp_key {s : ByteArray} (h : keyOk s = true) : noSp s := by
  unfold keyOk allLow at h
  simp only [Bool.and_eq_true, List.all_eq_true] at h
  intro hm
  have := h.2 _ hm
  simp [lowB] at this
theorem noSp_digits {l : List UInt8} (h : digits l) : (32 : UInt8) ∉ l := by
  intro hm
  have := h _ hm
  simp at this
theorem noSp_dec (n : Int) : noSp (dec n) := by
  by_cases hn : n < 0
  · obtain ⟨u, rfl, hu⟩ : ∃ u : Nat, n = -(u : Int) ∧ 1 ≤ u := ⟨n.natAbs, by omega, by omega⟩
    rw [dec_neg u hu]
    unfold noSp
    have := noSp_digits (digits_decDigits u)
    simpa [decN] using this
  · obtain ⟨u, rfl⟩ : ∃ u : Nat, n = (u : Int) := ⟨n.toNat, by omega⟩
    rw [dec_nonneg]
    unfold noSp
    have := noSp_digits (digits_decDigits u)
    simpa [decN] using this
theorem noSp_empty : noSp ByteArray.empty := by unfold noSp; decide
theorem emp_eq {s : ByteArray} (h : emp s = true) : s = ByteArray.empty := by
  unfold emp at h
  rw [beq_iff_eq, ByteArray.toList_eq] at h
  exact ByteArray.ext (Array.toList_inj.1 h)
theorem noSp_field {s : ByteArray} {f : Bool} (h : fieldB s f = true) : noSp s := by
  unfold fieldB at h
  split at h
  · exact noSp_key h
  · rw [emp_eq h]; exact noSp_empty
/-- what a right request is, whole -/
theorem askOk_whole {k : Int} {key hi : ByteArray} {num : Int} (h : askOk k key hi num = true) : ∃ (j : Nat) (a b c : Bool), k = (j : Int) + 1 ∧ j < 9 ∧ shape k = (a, b, c) ∧ fieldB key a = true ∧ fieldB hi b = true ∧ (c = false → num = 0) ∧ -999 ≤ num ∧ num ≤ 999 := by
  obtain ⟨j, a, b, c, rfl, hj, hs, _, _, n0, n1⟩ := askOk_facts h
  rw [askOk_mid (by omega) (by omega) hs] at h
  simp only [Bool.and_eq_true] at h
  refine ⟨j, a, b, c, rfl, hj, hs, h.1, h.2.1, fun hc => ?_, n0, n1⟩
  subst hc
  simpa using h.2.2
theorem shape_cases (k : Int) {a b c : Bool} (h : shape k = (a, b, c)) : (a, b, c) = (true, false, false) ∨ (a, b, c) = (true, true, false) ∨ (a, b, c) = (true, false, true) ∨ (a, b, c) = (false, false, false) := by
  rw [← h]; unfold shape
  repeat' split
  all_goals simp
theorem noSp_pieces {j : Nat} {key hi : ByteArray} {num : Int} {a b c : Bool} (hj : j < 9) (h1 : fieldB key a = true) (h2 : fieldB hi b = true) : ∀ p ∈ piecesOf j key hi num a b c, noSp p := by
  intro p hp
  unfold piecesOf at hp
  simp only [List.mem_cons, List.mem_append] at hp
  rcases hp with rfl | hp | hp | hp
  · exact noSp_word hj
  · cases a
    · simp at hp
    · simp at hp; rw [hp]; exact noSp_field h1
  · cases b
    · simp at hp
    · simp at hp; rw [hp]; exact noSp_field h2
  · cases c
    · simp at hp
    · simp at hp; rw [hp]; exact noSp_dec num
theorem pieces_ne (j : Nat) (key hi : ByteArray) (num : Int) (a b c : Bool) : piecesOf j key hi num a b c ≠ [] := by simp [piecesOf]
/-- the words of a text, as the program and as the reference cut it -/
def wordsOf (s : ByteArray) : List ByteArray := Lib.splitB spB 0 (Lib.countB s spB) s
theorem splitB_len (save : Nat) : ∀ (k : Nat) (s : ByteArray), Lib.splitB spB save k s ≠ [] := by
  intro k s
  cases k with
  | zero => simp [Lib.splitB]
  | succ k => unfold Lib.splitB; split <;> simp
def nthW (ws : List ByteArray) (i : Nat) : ByteArray := ws.getD i ByteArray.empty
/-- a text that a right request writes, cut -/
theorem text_words {k : Int} {key hi : ByteArray} {num : Int} (h : askOk k key hi num = true) {ws : List ByteArray} (hw : ws = wordsOf (askText k key hi num) ∨ ws = cutS (askText k key hi num)) :
    ∃ (j : Nat) (a b c : Bool), k = (j : Int) + 1 ∧ j < 9 ∧ shape k = (a, b, c) ∧ nthW ws 0 = word j ∧ key = (if a = true then nthW ws 1 else ByteArray.empty) ∧ hi = (if b = true then nthW ws 2 else ByteArray.empty) ∧
      (c = true → nthW ws 2 = dec num) ∧ (c = false → num = 0) ∧ -999 ≤ num ∧ num ≤ 999 ∧ ws.length = 1 + (if a = true then 1 else 0) + (if b = true then 1 else 0) + (if c = true then 1 else 0) := by
  obtain ⟨j, a, b, c, rfl, hj, hs, h1, h2, hc, n0, n1⟩ := askOk_whole h
  have hp : ws = piecesOf j key hi num a b c := by
    rw [askText_ok h hs, catT_join] at hw
    rcases hw with hw | hw
    · rw [hw]; exact (split_join _ (pieces_ne _ _ _ _ _ _ _) (noSp_pieces hj h1 h2)).2
    · rw [hw]; exact cut_join _ (pieces_ne _ _ _ _ _ _ _) (noSp_pieces hj h1 h2)
  have hsc := shape_cases _ hs
  refine ⟨j, a, b, c, rfl, hj, hs, ?_⟩
  subst hp
  simp only [Prod.mk.injEq] at hsc
  rcases hsc with ⟨rfl, rfl, rfl⟩ | ⟨rfl, rfl, rfl⟩ | ⟨rfl, rfl, rfl⟩ | ⟨rfl, rfl, rfl⟩
  all_goals simp only [fieldB] at h1 h2
  all_goals (try replace h1 := emp_eq h1)
  all_goals (try replace h2 := emp_eq h2)
  all_goals simp_all [piecesOf, nthW]
theorem word_inj {i j : Nat} (hi : i < 9) (hj : j < 9) (h : word i = word j) : i = j := by
  have hd : ∀ i j : Fin 9, word i.val = word j.val → i = j := by decide +kernel
  have := hd ⟨i, hi⟩ ⟨j, hj⟩ h
  exact Fin.mk.inj_iff.1 this
theorem dec_inj {m n : Int} (h : dec m = dec n) : m = n := by
  have key : ∀ n : Int, ∃ u : Nat, (n = (u : Int) ∧ (dec n).data.toList = Lib.decDigits u) ∨ (n = -(u : Int) ∧ 1 ≤ u ∧ (dec n).data.toList = 45 :: Lib.decDigits u) := by
    intro n
    by_cases hn : n < 0
    · obtain ⟨u, rfl, hu⟩ : ∃ u : Nat, n = -(u : Int) ∧ 1 ≤ u := ⟨n.natAbs, by omega, by omega⟩
      exact ⟨u, .inr ⟨rfl, hu, by rw [dec_neg u hu]; simp [decN]⟩⟩
    · obtain ⟨u, rfl⟩ : ∃ u : Nat, n = (u : Int) := ⟨n.toNat, by omega⟩
      exact ⟨u, .inl ⟨rfl, by rw [dec_nonneg]; simp [decN]⟩⟩
  have hdash : ∀ (u v : Nat), Lib.decDigits u ≠ 45 :: Lib.decDigits v := by
    intro u v e
    have := digits_decDigits u 45 (by rw [e]; simp)
    simp at this
  obtain ⟨u, hu⟩ := key m
  obtain ⟨v, hv⟩ := key n
  rw [h] at hu
  rcases hu with ⟨rfl, e1⟩ | ⟨rfl, _, e1⟩ <;> rcases hv with ⟨rfl, e2⟩ | ⟨rfl, _, e2⟩
  · rw [e1] at e2
    rw [← dval_decDigits u, e2, dval_decDigits]
  · rw [e1] at e2; exact absurd e2 (hdash _ _)
  · rw [e1] at e2; exact absurd e2.symm (hdash _ _)
  · rw [e1] at e2
    have := (List.cons.inj e2).2
    rw [← dval_decDigits u, this, dval_decDigits]
theorem askText_ne {k : Int} {key hi : ByteArray} {num : Int} (h : askOk k key hi num = true) : askText k key hi num ≠ ByteArray.empty := by
  obtain ⟨j, a, b, c, _, hj, _, e0, -, -, -, -, -, -, hl⟩ := text_words h (.inl rfl)
  intro e
  rw [e] at e0
  have : nthW (wordsOf ByteArray.empty) 0 = ByteArray.empty := by decide +kernel
  rw [this] at e0
  have hd : ∀ i : Fin 9, ByteArray.empty ≠ word i.val := by decide +kernel
  exact hd ⟨j, hj⟩ e0
/-- a text is written by at most one right request -/
theorem askText_inj {k : Int} {key hi : ByteArray} {num : Int} {k2 : Int} {key2 hi2 : ByteArray} {num2 : Int} (h : askOk k key hi num = true) (h2 : askOk k2 key2 hi2 num2 = true) (e : askText k key hi num = askText k2 key2 hi2 num2) :
    k = k2 ∧ key = key2 ∧ hi = hi2 ∧ num = num2 := by
  obtain ⟨j, a, b, c, rfl, hj, hs, e0, e1, e2, e3, e4, -, -, -⟩ := text_words h (.inl rfl)
  obtain ⟨j', a', b', c', rfl, hj', hs', f0, f1, f2, f3, f4, -, -, -⟩ := text_words h2 (.inl rfl)
  rw [e] at e0 e1 e2 e3
  obtain rfl := word_inj hj hj' (e0.symm.trans f0)
  rw [hs] at hs'
  simp only [Prod.mk.injEq] at hs'
  obtain ⟨rfl, rfl, rfl⟩ := hs'
  refine ⟨rfl, e1.trans f1.symm, e2.trans f2.symm, ?_⟩
  cases c
  · rw [e4 rfl, f4 rfl]
  · exact dec_inj ((e3 rfl).symm.trans (f3 rfl))
theorem dec_form (n : Int) : ∃ u : Nat, (n = (u : Int) ∧ (dec n).data.toList = Lib.decDigits u) ∨ (n = -(u : Int) ∧ 1 ≤ u ∧ (dec n).data.toList = 45 :: Lib.decDigits u) := by
  by_cases hn : n < 0
  · obtain ⟨u, rfl, hu⟩ : ∃ u : Nat, n = -(u : Int) ∧ 1 ≤ u := ⟨n.natAbs, by omega, by omega⟩
    exact ⟨u, .inr ⟨rfl, hu, by rw [dec_neg u hu]; simp [decN]⟩⟩
  · obtain ⟨u, rfl⟩ : ∃ u : Nat, n = (u : Int) := ⟨n.toNat, by omega⟩
    exact ⟨u, .inl ⟨rfl, by rw [dec_nonneg]; simp [decN]⟩⟩
/-- what a reader of numbers must give: where the text is a small number, that number -/
def IsNum (s : ByteArray) (v : Int) : Prop := ∀ n : Int, -999 ≤ n → n ≤ 999 → s = dec n → v = n
theorem decDigits_ne (u : Nat) : Lib.decDigits u ≠ [] := by
  intro e
  have := Lib.decDigits_length u
  have h := Lib.nDigits_pos u
  rw [e] at this
  simp at this
  omega
theorem head_digit (u : Nat) : (Lib.decDigits u).head? ≠ some 45 := by
  intro e
  have := digits_decDigits u 45 (List.mem_of_mem_head? e)
  simp at this
theorem head_zero {u : Nat} (h : 1 ≤ u) : (Lib.decDigits u).head? ≠ some 48 := by
  obtain ⟨c, r, e, hc⟩ := head_dec (u + 1) u (by omega) h
  rw [e]
  intro e2
  simp at e2
  subst e2
  simp at hc
theorem len_small {u : Nat} (h : u ≤ 999) : (Lib.decDigits u).length ≤ 3 := by
  rw [Lib.decDigits_length]
  by_cases h1 : u < 10
  · rw [Lib.nDigits_small h1]; omega
  · rw [Lib.nDigits_big h1]
    by_cases h2 : u / 10 < 10
    · rw [Lib.nDigits_small h2]; omega
    · rw [Lib.nDigits_big h2, Lib.nDigits_small (by omega)]; omega
theorem len_zero : (Lib.decDigits 0).length = 1 := by rw [Lib.decDigits_length, Lib.nDigits_small (by omega)]
theorem size_list (s : ByteArray) : s.size = s.data.toList.length := by rw [Array.length_toList]; rfl
theorem isNum_parts {s : ByteArray} {l : List UInt8} {neg : Bool} (hneg : neg = true ↔ s.data.toList.head? = some 45) (ht : l = if neg = true then s.data.toList.drop 1 else s.data.toList) {n : Int} (h0 : -999 ≤ n) (h1 : n ≤ 999) (e : s = dec n) :
    ∃ u : Nat, u ≤ 999 ∧ l = Lib.decDigits u ∧ n = (if neg = true then -(u : Int) else (u : Int)) ∧ (neg = true → 1 ≤ u) := by
  subst e
  obtain ⟨u, ⟨rfl, hu⟩ | ⟨rfl, hu1, hu⟩⟩ := dec_form n
  · have hn : neg = false := by
      cases neg
      · rfl
      · have := hneg.1 rfl
        rw [hu] at this
        exact absurd this (head_digit u)
    subst hn
    exact ⟨u, by omega, by rw [ht, hu]; rfl, rfl, fun h => by cases h⟩
  · have hn : neg = true := hneg.2 (by rw [hu]; rfl)
    subst hn
    exact ⟨u, by omega, by rw [ht, hu]; rfl, rfl, fun _ => hu1⟩
theorem isNum_early {s : ByteArray} {l : List UInt8} {neg : Bool} (hneg : neg = true ↔ s.data.toList.head? = some 45) (ht : l = if neg = true then s.data.toList.drop 1 else s.data.toList)
    (hbad : l.length = 0 ∨ 17 < l.length ∨ (l.head? = some 48 ∧ (1 < l.length ∨ neg = true)) ∨ (∃ c ∈ l, ¬ (48 ≤ c.toNat ∧ c.toNat ≤ 57))) (v : Int) : IsNum s v := by
  intro n h0 h1 e
  exfalso
  obtain ⟨u, hu, rfl, -, hn⟩ := isNum_parts hneg ht h0 h1 e
  have h3 := len_small hu
  rcases hbad with h | h | ⟨h, h2⟩ | ⟨c, hc, h⟩
  · exact decDigits_ne u (List.length_eq_zero_iff.1 h)
  · omega
  · have hz : u = 0 := by
      rcases Nat.eq_zero_or_pos u with hz | hz
      · exact hz
      · exact absurd h (head_zero hz)
    subst hz
    have := len_zero
    rcases h2 with h2 | h2
    · omega
    · have := hn h2; omega
  · exact h (digits_decDigits u c hc)
theorem isNum_val {s : ByteArray} {l : List UInt8} {neg : Bool} (hneg : neg = true ↔ s.data.toList.head? = some 45) (ht : l = if neg = true then s.data.toList.drop 1 else s.data.toList) :
    IsNum s (if neg = true then -(dval l : Int) else (dval l : Int)) := by
  intro n h0 h1 e
  obtain ⟨u, hu, rfl, rfl, -⟩ := isNum_parts hneg ht h0 h1 e
  rw [dval_decDigits]
theorem dval_snoc (l : List UInt8) (c : UInt8) : dval (l ++ [c]) = dval l * 10 + (c.toNat - 48) := by simp [dval, dstep]
theorem foldl_lt : ∀ (l : List UInt8) (a : Nat), digits l → l.foldl dstep a < (a + 1) * 10 ^ l.length
  | [], a, _ => by simp
  | c :: r, a, h => by
    have h1 := foldl_lt r (dstep a c) (fun x hx => h x (by simp [hx]))
    have h2 := h c (by simp)
    have h3 : dstep a c + 1 ≤ (a + 1) * 10 := by unfold dstep; omega
    have h4 := Nat.mul_le_mul_right (10 ^ r.length) h3
    rw [List.foldl_cons, List.length_cons, Nat.pow_succ, Nat.mul_comm (10 ^ r.length) 10, ← Nat.mul_assoc]
    omega
theorem dval_lt (l : List UInt8) (h : digits l) : dval l < 10 ^ l.length := by
  have := foldl_lt l 0 h
  simpa [dval] using this
theorem foldl_ge : ∀ (l : List UInt8) (a : Nat), a ≤ l.foldl dstep a
  | [], a => Nat.le_refl a
  | c :: r, a => by
    rw [List.foldl_cons]
    exact Nat.le_trans (by unfold dstep; omega) (foldl_ge r (dstep a c))
theorem parseM_dec : ∀ (l : List UInt8) (a : Nat), digits l → l.foldl dstep a ≤ 999 → Lib.parseUintM (2 ^ 64 - 1) a l = .ok (l.foldl dstep a)
  | [], a, _, _ => rfl
  | c :: r, a, h, hl => by
    have h2 := h c (by simp)
    have h3 := foldl_ge r (dstep a c)
    rw [List.foldl_cons] at hl ⊢
    have h4 : dstep a c = a * 10 + (c.toNat - 48) := rfl
    rw [Lib.parseUintM, if_pos h2, if_neg (by omega), if_neg (by omega), ← h4]
    exact parseM_dec r (dstep a c) (fun x hx => h x (by simp [hx])) hl
theorem parseB_dec {u : Nat} (h : u ≤ 999) : Lib.parseUintB 64 (Lib.decDigits u) = .ok u := by
  rw [Lib.parseUintB, if_neg (decDigits_ne u), parseM_dec _ 0 (digits_decDigits u) (by have := dval_decDigits u; unfold dval at this; omega)]
  exact congrArg _ (dval_decDigits u)
theorem parse_dec {n : Int} (h0 : -999 ≤ n) (h1 : n ≤ 999) : Lib.parseIntB 64 (dec n).data.toList = .ok n := by
  obtain ⟨u, ⟨rfl, hu⟩ | ⟨rfl, hu1, hu⟩⟩ := dec_form n
  · have hd := digits_decDigits u
    have hb := parseB_dec (u := u) (by omega)
    rw [hu]
    match hl : Lib.decDigits u, decDigits_ne u with
    | c :: r, _ =>
      rw [hl] at hd hb
      have hc := hd c (by simp)
      unfold Lib.parseIntB
      simp only
      rw [if_neg (by omega), hb]
      simp only
      rw [if_neg (by omega), if_neg (by omega), if_neg (by omega)]
  · have hb := parseB_dec (u := u) (by omega)
    rw [hu]
    unfold Lib.parseIntB
    simp only [UInt8.reduceToNat, or_true, if_true, hb, true_and, not_true_eq_false, false_and, if_false]
    rw [if_neg (by omega)]
theorem parse_range {l : List UInt8} {v : Int} (h : Lib.parseIntB 64 l = .ok v) : -9223372036854775808 ≤ v ∧ v ≤ 9223372036854775807 := by
  unfold Lib.parseIntB at h
  split at h
  · cases h
  · simp only at h
    split at h
    · cases h
    · cases h
    · split at h
      · cases h
      · split at h
        · cases h
        · rename_i h1 h2
          injection h with h
          subst h
          split <;> omega
theorem isNum_parse {s : ByteArray} {v : Int} (h : Lib.parseIntB 64 s.data.toList = .ok v) : IsNum s v := by
  intro n h0 h1 e
  subst e
  rw [parse_dec h0 h1] at h
  injection h with h
  exact h.symm
theorem isNum_bad {s : ByteArray} (h : ∀ v, Lib.parseIntB 64 s.data.toList ≠ .ok v) (v : Int) : IsNum s v := by
  intro n h0 h1 e
  subst e
  exact absurd (parse_dec h0 h1) (h n)
theorem isNum_other {s : ByteArray} {v : Int} (h : Lib.parseIntB 64 s.data.toList = .ok v) (hne : dec v ≠ s) (x : Int) : IsNum s x := by
  intro n h0 h1 e
  have := isNum_parse h n h0 h1 e
  subst this
  exact absurd e.symm hne
theorem isNum_long {s : ByteArray} (h : 17 < (Lib.trimPrefix s.data.toList [45]).length) (v : Int) : IsNum s v := by
  intro n h0 h1 e
  exfalso
  subst e
  obtain ⟨u, ⟨rfl, hu⟩ | ⟨rfl, hu1, hu⟩⟩ := dec_form n
  · have h3 := len_small (u := u) (by omega)
    rw [hu, Lib.trimPrefix] at h
    split at h
    · simp at h; omega
    · omega
  · have h3 := len_small (u := u) (by omega)
    rw [hu, Lib.trimPrefix] at h
    split at h
    · simp at h; omega
    · rename_i hp; simp [Lib.hasPrefix] at hp
end Go.Proofs.YtpmeaikiaoojkaaDoor
