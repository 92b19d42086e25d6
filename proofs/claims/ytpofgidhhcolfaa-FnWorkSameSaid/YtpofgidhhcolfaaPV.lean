/- Plain facts of right histories: the order of versions, the rows of a time, what is forgotten, the last change. No program in sight. -/
import Derived.Test.YtpofgidhhcolfaaPR
import Derived.Test.YtpofgidhhcolfaaT4
import Derived.Test.YtpofgidhhcolfaaV9
import Derived.Test.YtpofgidhhcolfaaV10
namespace Go.Proofs.Ytpofgidhhcolfaa

theorem verOk_parts {now : Int} {x : Ver} (h : verOk now x = true) : keyOk x.1 = true ∧ numOk x.2.1 = true ∧ 1 ≤ x.2.2.1 ∧ x.2.2.1 ≤ now ∧ (x.2.2.2 = 0 ∨ (x.2.2.1 < x.2.2.2 ∧ x.2.2.2 ≤ now)) := by
  simp only [verOk, Bool.and_eq_true, Bool.or_eq_true, decide_eq_true_eq] at h
  obtain ⟨⟨⟨h1, h2⟩, h3, h4⟩, h5⟩ := h
  exact ⟨h1, h2, h3, h4, h5⟩
theorem ahead_same {a b : Ver} (h : ahead a b = true) (hk : a.1 = b.1) : 0 < a.2.2.2 ∧ a.2.2.2 ≤ b.2.2.1 := by
  unfold ahead at h
  rw [if_pos (keq_iff.2 hk)] at h
  simpa [Bool.and_eq_true, decide_eq_true_eq] using h
theorem ahead_other {a b : Ver} (h : ahead a b = true) (hk : a.1 ≠ b.1) : klt a.1 b.1 = true := by
  unfold ahead at h
  rwa [if_neg (fun e => hk (keq_iff.1 e))] at h
theorem ahead_mk_same {a b : Ver} (hk : a.1 = b.1) (h0 : 0 < a.2.2.2) (h1 : a.2.2.2 ≤ b.2.2.1) : ahead a b = true := by
  unfold ahead
  rw [if_pos (keq_iff.2 hk)]
  simp [h0, h1]
theorem ahead_mk_other {a b : Ver} (h : klt a.1 b.1 = true) : ahead a b = true := by
  unfold ahead
  rw [if_neg (fun e => by rw [keq_iff.1 e, klt_irrefl] at h; cases h)]
  exact h
theorem ahead_trans {now : Int} {a b c : Ver} (hb : verOk now b = true) (h1 : ahead a b = true) (h2 : ahead b c = true) : ahead a c = true := by
  obtain ⟨_, _, h3, _, h5⟩ := verOk_parts hb
  by_cases e1 : a.1 = b.1 <;> by_cases e2 : b.1 = c.1
  · obtain ⟨p1, p2⟩ := ahead_same h1 e1
    obtain ⟨q1, q2⟩ := ahead_same h2 e2
    exact ahead_mk_same (e1.trans e2) p1 (by omega)
  · exact ahead_mk_other (by rw [e1]; exact ahead_other h2 e2)
  · exact ahead_mk_other (by rw [← e2]; exact ahead_other h1 e1)
  · exact ahead_mk_other (klt_trans (ahead_other h1 e1) (ahead_other h2 e2))
theorem ahead_far {now : Int} {l : List Ver} (he : EachV now l) (ha : AheadP l) (d : Nat) : ∀ (i : Nat) (x y : Ver), l[i]? = some x → l[i + 1 + d]? = some y → ahead x y = true := by
  induction d with
  | zero => exact fun i x y hx hy => ha i x y hx hy
  | succ d ih =>
    intro i x y hx hy
    have hl : i + 1 + d < l.length := by have := (List.getElem?_eq_some_iff.1 hy).1; omega
    have hz := List.getElem?_eq_getElem hl
    exact ahead_trans (he _ _ hz) (ih i x _ hx hz) (ha (i + 1 + d) _ y hz (by rw [← hy]; congr 1))
theorem VersP.far {now : Int} {l : List Ver} (h : VersP now l) {i j : Nat} {x y : Ver} (hij : i < j) (hx : l[i]? = some x) (hy : l[j]? = some y) : ahead x y = true :=
  ahead_far h.2.1 h.2.2.1 (j - i - 1) i x y hx (by rw [← hy]; congr 1; omega)
theorem VersP.pair {now : Int} {l : List Ver} (h : VersP now l) : l.Pairwise fun a b => ahead a b = true := by
  rw [List.pairwise_iff_getElem]
  intro i j hi hj hij
  exact h.far hij (List.getElem?_eq_getElem hi) (List.getElem?_eq_getElem hj)
theorem EachV.mem {now : Int} {l : List Ver} (h : EachV now l) {x : Ver} (hx : x ∈ l) : verOk now x = true := by
  obtain ⟨i, hi⟩ := List.mem_iff_getElem?.1 hx
  exact h i x hi
theorem eachV_of {now : Int} {l : List Ver} (h : ∀ x ∈ l, verOk now x = true) : EachV now l := fun _ x hx => h x (List.mem_of_getElem? hx)
theorem aheadP_of {l : List Ver} (h : l.Pairwise fun a b => ahead a b = true) : AheadP l := by
  rw [List.pairwise_iff_getElem] at h
  intro i a b ha hb
  obtain ⟨hi, rfl⟩ := List.getElem?_eq_some_iff.1 ha
  obtain ⟨hj, rfl⟩ := List.getElem?_eq_some_iff.1 hb
  exact h i (i + 1) hi hj (by omega)
theorem vis_iff {t : Int} {x : Ver} : vis t x = true ↔ x.2.2.1 ≤ t ∧ (x.2.2.2 = 0 ∨ t < x.2.2.2) := by
  simp [vis, Bool.and_eq_true, Bool.or_eq_true, decide_eq_true_eq]
theorem ahead_vis {a b : Ver} {t : Int} (h : ahead a b = true) (ha : vis t a = true) (hb : vis t b = true) : klt a.1 b.1 = true := by
  by_cases e : a.1 = b.1
  · obtain ⟨p1, p2⟩ := ahead_same h e
    rw [vis_iff] at ha hb
    omega
  · exact ahead_other h e
theorem at_mem {l : List Ver} {t : Int} {r : Row} : r ∈ atL l t ↔ ∃ x ∈ l, vis t x = true ∧ r = (x.1, x.2.1) := by
  unfold atL
  simp only [List.mem_map, List.mem_filter]
  constructor
  · rintro ⟨x, ⟨h1, h2⟩, rfl⟩; exact ⟨x, h1, h2, rfl⟩
  · rintro ⟨x, h1, h2, rfl⟩; exact ⟨x, ⟨h1, h2⟩, rfl⟩
theorem at_srt {now : Int} {l : List Ver} (h : VersP now l) (t : Int) : Srt (atL l t) := by
  unfold atL Srt
  rw [List.pairwise_map]
  have h1 := h.pair.sublist (List.filter_sublist (p := vis t) (l := l))
  refine h1.imp_of_mem fun {a b} ha hb hab => ?_
  exact ahead_vis hab (List.mem_filter.1 ha).2 (List.mem_filter.1 hb).2
theorem at_rowsP {now : Int} {l : List Ver} (h : VersP now l) {t : Int} (h0 : 0 ≤ t) (h1 : t ≤ now) : RowsP (atL l t) := by
  rw [rowsP_iff]
  refine ⟨?_, fun r hr => ?_, at_srt h t⟩
  · have := h.2.2.2 t.toNat (by omega)
    rw [at_seen]
    rwa [Int.toNat_of_nonneg h0] at this
  · obtain ⟨x, hx, _, rfl⟩ := at_mem.1 hr
    obtain ⟨p1, p2, _⟩ := verOk_parts (h.2.1.mem hx)
    exact ⟨p1, p2⟩
theorem at_get {now : Int} {l : List Ver} (h : VersP now l) {t : Int} (h0 : 0 ≤ t) (h1 : t ≤ now) {x : Ver} (hx : x ∈ l) (hv : vis t x = true) :
    getHas (atL l t) x.1 = true ∧ getNum (atL l t) x.1 = x.2.1 := get_mem (at_rowsP h h0 h1) (at_mem.2 ⟨x, hx, hv, rfl⟩)
theorem at_zero {now : Int} {l : List Ver} (h : VersP now l) : atL l 0 = [] := by
  unfold atL
  rw [List.map_eq_nil_iff, List.filter_eq_nil_iff]
  intro x hx hv
  obtain ⟨_, _, p3, _⟩ := verOk_parts (h.2.1.mem hx)
  rw [vis_iff] at hv
  omega
theorem atRes_rowsP (now : Int) (l : List Ver) (t : Int) : RowsP (atRes now l t) := by
  cases hv : versOk now l
  · rw [atRes_bad hv]; exact rowsP_iff.2 ⟨by simp, by simp, List.Pairwise.nil⟩
  · by_cases h0 : 0 ≤ t ∧ t ≤ now
    · rw [atRes_ok hv h0.1 h0.2]; exact at_rowsP (versOk_iff.1 hv) h0.1 h0.2
    · rw [atRes_out (by omega)]; exact rowsP_iff.2 ⟨by simp, by simp, List.Pairwise.nil⟩

/-! ### what is forgotten -/
theorem keepV_iff {t : Int} {x : Ver} : keepV t x = true ↔ (x.2.2.2 = 0 ∨ t < x.2.2.2) := by
  simp only [keepV, dropV, Bool.not_eq_true', Bool.and_eq_false_iff, decide_eq_false_iff_not]
  omega
theorem trim_at (l : List Ver) {t k : Int} (h : t ≤ k) : atL (trimL l t) k = atL l k := by
  unfold atL trimL
  rw [List.filter_filter]
  congr 1
  apply List.filter_congr
  intro x _
  rw [Bool.eq_iff_iff, Bool.and_eq_true, vis_iff, keepV_iff]
  omega
theorem trim_trim (l : List Ver) (t : Int) : trimL (trimL l t) t = trimL l t := by
  unfold trimL
  rw [List.filter_filter]
  congr 1
  funext x
  simp
theorem trim_P {now : Int} {l : List Ver} (h : VersP now l) (t : Int) : VersP now (trimL l t) := by
  obtain ⟨⟨h0, h1, h2⟩, h3, _, h5⟩ := h
  refine ⟨⟨h0, h1, Nat.le_trans (trimL_len l t) h2⟩, eachV_of fun x hx => h3.mem (List.mem_filter.1 hx).1, aheadP_of (VersP.pair ⟨⟨h0, h1, h2⟩, h3, ‹_›, h5⟩ |>.sublist List.filter_sublist), fun k hk => ?_⟩
  refine Nat.le_trans ?_ (h5 k hk)
  unfold seen trimL
  exact ((List.filter_sublist (p := keepV t) (l := l)).filter _).length_le

/-! ### the last change -/
theorem lastF_ge (key : ByteArray) (l : List Ver) : ∀ m : Int, m ≤ l.foldl (lastStep key) m ∧ ∀ x ∈ l, x.1 = key → x.2.2.1 ≤ l.foldl (lastStep key) m ∧ x.2.2.2 ≤ l.foldl (lastStep key) m := by
  induction l with
  | nil => intro m; simp
  | cons y l ih =>
    intro m
    rw [List.foldl_cons]
    obtain ⟨i1, i2⟩ := ih (lastStep key m y)
    have hm : m ≤ lastStep key m y := by unfold lastStep; split <;> omega
    refine ⟨by omega, fun x hx hk => ?_⟩
    rcases List.mem_cons.1 hx with rfl | hx
    · have : x.2.2.1 ≤ lastStep key m x ∧ x.2.2.2 ≤ lastStep key m x := by
        unfold lastStep; rw [if_pos (keq_iff.2 hk)]; omega
      omega
    · exact i2 x hx hk
theorem lastF_le (key : ByteArray) (b : Int) (l : List Ver) : ∀ m : Int, m ≤ b → (∀ x ∈ l, x.1 = key → x.2.2.1 ≤ b ∧ x.2.2.2 ≤ b) → l.foldl (lastStep key) m ≤ b := by
  induction l with
  | nil => intro m h _; simpa using h
  | cons y l ih =>
    intro m h hx
    rw [List.foldl_cons]
    refine ih _ ?_ fun x hx2 hk => hx x (List.mem_cons_of_mem _ hx2) hk
    unfold lastStep
    split
    · rename_i hk
      have := hx y (by simp) (keq_iff.1 hk)
      omega
    · exact h
theorem last_ge {l : List Ver} {x : Ver} (hx : x ∈ l) : x.2.2.1 ≤ lastL l x.1 ∧ x.2.2.2 ≤ lastL l x.1 := (lastF_ge x.1 l 0).2 x hx rfl
theorem last_nonneg (l : List Ver) (key : ByteArray) : 0 ≤ lastL l key := (lastF_ge key l 0).1
theorem last_le_now {now : Int} {l : List Ver} (h : VersP now l) (key : ByteArray) : lastL l key ≤ now := by
  refine lastF_le key now l 0 h.1.1 fun x hx _ => ?_
  obtain ⟨_, _, _, p4, p5⟩ := verOk_parts (h.2.1.mem hx)
  have := h.1.1
  omega
/-- versions of one key do not overlap -/
theorem over_keys {now : Int} {l : List Ver} (h : VersP now l) {k i : Nat} {a b : Ver} (hki : k < i) (ha : l[k]? = some a) (hb : l[i]? = some b) (he : a.1 = b.1) : 0 < a.2.2.2 ∧ a.2.2.2 ≤ b.2.2.1 :=
  ahead_same (h.far hki ha hb) he
theorem open_last {now : Int} {l : List Ver} (h : VersP now l) {i : Nat} {b : Ver} (hb : l[i]? = some b) (h0 : b.2.2.2 = 0) : lastL l b.1 = b.2.2.1 := by
  have hm := List.mem_of_getElem? hb
  obtain ⟨_, _, b3, _, _⟩ := verOk_parts (h.2.1.mem hm)
  refine Int.le_antisymm (lastF_le b.1 b.2.2.1 l 0 (by omega) fun x hx hk => ?_) (last_ge hm).1
  obtain ⟨j, hj⟩ := List.mem_iff_getElem?.1 hx
  rcases Nat.lt_trichotomy j i with hji | hji | hji
  · obtain ⟨q1, q2⟩ := over_keys h hji hj hb hk
    obtain ⟨_, _, _, _, p5⟩ := verOk_parts (h.2.1.mem hx)
    omega
  · subst hji; rw [hb] at hj; cases hj; omega
  · obtain ⟨q1, q2⟩ := over_keys h hji hb hj hk.symm
    omega
theorem open_vis {now : Int} {l : List Ver} (h : VersP now l) {b : Ver} (hb : b ∈ l) (h0 : b.2.2.2 = 0) : vis now b = true := by
  obtain ⟨_, _, _, b4, _⟩ := verOk_parts (h.2.1.mem hb)
  exact vis_iff.2 ⟨b4, .inl h0⟩
theorem getNum_none {l : List Row} {key : ByteArray} (h : hit l key = false) : getNum l key = 0 := by
  unfold getNum
  split
  · rw [if_neg (by rw [h]; simp)]
  · rfl
theorem at_key {now : Int} {l : List Ver} (_ : VersP now l) {key : ByteArray} {k : Int} (hk : lastL l key ≤ k) (v : Int) : (key, v) ∈ atL l k ↔ ∃ x ∈ l, x.2.2.2 = 0 ∧ (key, v) = (x.1, x.2.1) := by
  rw [at_mem]
  constructor
  · rintro ⟨x, hx, hv, he⟩
    obtain ⟨rfl, rfl⟩ := Prod.mk.inj he
    have := last_ge hx
    rw [vis_iff] at hv
    exact ⟨x, hx, by omega, rfl⟩
  · rintro ⟨x, hx, h0, he⟩
    obtain ⟨rfl, rfl⟩ := Prod.mk.inj he
    have := last_ge hx
    exact ⟨x, hx, vis_iff.2 ⟨by omega, .inl h0⟩, rfl⟩
theorem at_same {now : Int} {l : List Ver} (h : VersP now l) {key : ByteArray} {k : Int} (hk : lastL l key ≤ k) (h1 : k ≤ now) :
    getNum (atL l k) key = getNum (atL l now) key ∧ getHas (atL l k) key = getHas (atL l now) key := by
  have h0 := last_nonneg l key
  have hn := last_le_now h key
  have pk := at_rowsP h (t := k) (by omega) h1
  have pn := at_rowsP h (t := now) (by omega) (Int.le_refl _)
  have e : ∀ v, (key, v) ∈ atL l k ↔ (key, v) ∈ atL l now := fun v => by rw [at_key h hk, at_key h hn]
  by_cases hv : ∃ v, (key, v) ∈ atL l k
  · obtain ⟨v, hv⟩ := hv
    obtain ⟨a1, a2⟩ := get_mem pk hv
    obtain ⟨b1, b2⟩ := get_mem pn ((e v).1 hv)
    rw [a1, a2, b1, b2]; exact ⟨rfl, rfl⟩
  · have a1 : getHas (atL l k) key = false := by
      rw [Bool.eq_false_iff]; intro hh; exact hv ((has_iff pk).1 hh)
    have b1 : getHas (atL l now) key = false := by
      rw [Bool.eq_false_iff]; intro hh; obtain ⟨v, hv2⟩ := (has_iff pn).1 hh; exact hv ⟨v, (e v).2 hv2⟩
    rw [a1, b1]
    rw [has_hit pk] at a1
    rw [has_hit pn] at b1
    rw [getNum_none a1, getNum_none b1]; exact ⟨rfl, rfl⟩
end Go.Proofs.Ytpofgidhhcolfaa
