/- Plain laws of puts and cuts. No program in sight. -/
import Derived.Test.YtndeehlndbdonaaP3
import Derived.Test.YtndeehlndbdonaaB11
namespace Go.Proofs.Ytndeehlndbdonaa

theorem RowsP.kw {l : List Row} (h : RowsP l) : KeysWf l := by
  intro r hr
  exact keyOk_size' ((rowsP_iff.1 h).2.1 r hr).1
theorem RowsP.le {l : List Row} (h : RowsP l) : l.length ≤ 1000 := Nat.le_trans h.1 (by omega)
theorem put_true {l x : List Row} {key : ByteArray} {num : Int} (h : putRes l key num = (x, true)) : RowsP l ∧ x = putL l key num ∧ RowsP x := by
  cases hok : rowsOk l
  · rw [putRes_bad hok] at h; cases h
  · cases hok2 : rowsOk (putL l key num)
    · rw [putRes_full hok hok2] at h; cases h
    · rw [putRes_ok hok hok2] at h
      obtain ⟨rfl, -⟩ := Prod.mk.inj h
      exact ⟨rowsOk_iff.1 hok, rfl, rowsOk_iff.1 hok2⟩
theorem put_false {l x : List Row} {key : ByteArray} {num : Int} (h : putRes l key num = (x, false)) : (rowsOk l = true ∧ x = l) ∨ (rowsOk l = false ∧ x = []) := by
  cases hok : rowsOk l
  · rw [putRes_bad hok] at h; cases h; exact .inr ⟨rfl, rfl⟩
  · cases hok2 : rowsOk (putL l key num)
    · rw [putRes_full hok hok2] at h; cases h; exact .inl ⟨rfl, rfl⟩
    · rw [putRes_ok hok hok2] at h; cases h
theorem put_small {l x : List Row} {key : ByteArray} {num : Int} {b : Bool} (h : putRes l key num = (x, b)) (hk : KeysWf l) (hl : l.length ≤ 1000) : KeysWf x ∧ x.length ≤ 1000 := by
  cases b
  · rcases put_false h with ⟨_, rfl⟩ | ⟨_, rfl⟩
    · exact ⟨hk, hl⟩
    · exact ⟨(fun r hr => by cases hr), by simp⟩
  · exact ⟨(put_true h).2.2.kw, (put_true h).2.2.le⟩
theorem cut_true {l x : List Row} {key : ByteArray} (h : cutRes l key = (x, true)) : RowsP l ∧ x = cutL l key ∧ hit l key = true := by
  cases hok : rowsOk l
  · rw [cutRes_bad hok] at h; cases h
  · rw [cutRes_eq hok] at h
    obtain ⟨rfl, h2⟩ := Prod.mk.inj h
    exact ⟨rowsOk_iff.1 hok, rfl, h2⟩
theorem cut_false {l x : List Row} {key : ByteArray} (h : cutRes l key = (x, false)) : (rowsOk l = true ∧ x = l ∧ hit l key = false) ∨ (rowsOk l = false ∧ x = []) := by
  cases hok : rowsOk l
  · rw [cutRes_bad hok] at h; cases h; exact .inr ⟨rfl, rfl⟩
  · rw [cutRes_eq hok] at h
    obtain ⟨rfl, h2⟩ := Prod.mk.inj h
    exact .inl ⟨rfl, cutL_miss h2, h2⟩
theorem cut_small {l x : List Row} {key : ByteArray} {b : Bool} (h : cutRes l key = (x, b)) (hk : KeysWf l) (hl : l.length ≤ 1000) : KeysWf x ∧ x.length ≤ 1000 := by
  cases b
  · rcases cut_false h with ⟨_, rfl, _⟩ | ⟨_, rfl⟩
    · exact ⟨hk, hl⟩
    · exact ⟨(fun r hr => by cases hr), by simp⟩
  · obtain ⟨h1, rfl, _⟩ := cut_true h
    exact ⟨(cut_ok h1 key).kw, (cut_ok h1 key).le⟩
/-- puts of different keys commute -/
theorem put_put {l : List Row} {k1 k2 : ByteArray} {n1 n2 : Int} (h : RowsP l) (h1 : RowsP (putL l k1 n1)) (h2 : RowsP (putL l k2 n2)) (hne : k2 ≠ k1) : putL (putL l k1 n1) k2 n2 = putL (putL l k2 n2) k1 n1 := by
  refine (srt_putL h1.2.2 _ _).ext (srt_putL h2.2.2 _ _) fun r => ?_
  rw [mem_putL h1.2.2, mem_putL h2.2.2, mem_putL h.2.2, mem_putL h.2.2]
  constructor
  · rintro (rfl | ⟨rfl | ⟨h, h3⟩, h4⟩)
    · exact .inr ⟨.inl rfl, hne⟩
    · exact .inl rfl
    · exact .inr ⟨.inr ⟨h, h4⟩, h3⟩
  · rintro (rfl | ⟨rfl | ⟨h, h3⟩, h4⟩)
    · exact .inr ⟨.inl rfl, Ne.symm hne⟩
    · exact .inl rfl
    · exact .inr ⟨.inr ⟨h, h4⟩, h3⟩
theorem hit_putL {l : List Row} {k1 k2 : ByteArray} {n1 : Int} (h : RowsP l) (h1 : RowsP (putL l k1 n1)) (hne : k2 ≠ k1) : hit (putL l k1 n1) k2 = hit l k2 := by
  rw [Bool.eq_iff_iff, hit_iff h1.2.2, hit_iff h.2.2]
  constructor
  · rintro ⟨v, hv⟩
    rcases (mem_putL h.2.2).1 hv with e | ⟨e, _⟩
    · exact absurd (congrArg Prod.fst e) hne
    · exact ⟨v, e⟩
  · rintro ⟨v, hv⟩
    exact ⟨v, (mem_putL h.2.2).2 (.inr ⟨hv, hne⟩)⟩
theorem hit_putL_self {l : List Row} {key : ByteArray} {num : Int} (h : RowsP l) (h1 : RowsP (putL l key num)) : hit (putL l key num) key = true :=
  (hit_iff h1.2.2).2 ⟨num, (mem_putL h.2.2).2 (.inl rfl)⟩
/-- the second of two puts of different keys, where there is room for both -/
theorem turn_ok {l : List Row} {k1 k2 : ByteArray} {n1 n2 : Int} (h : RowsP l) (h1 : RowsP (putL l k1 n1)) (hl : l.length ≤ 8) (hne : k2 ≠ k1) : RowsP (putL (putL l k1 n1) k2 n2) ↔ RowsP (putL l k2 n2) := by
  rw [put_ok_iff h1, put_ok_iff h, hit_putL h h1 hne, putL_length]
  have h9 : (if hit l k1 = true then l.length else l.length + 1) < 10 := by split <;> omega
  have h8 : l.length < 10 := by omega
  simp [h9, h8]
theorem turn_law {l x : List Row} {k1 k2 : ByteArray} {n1 n2 : Int} (h : putRes l k1 n1 = (x, true)) (hl : l.length ≤ 8) (hne : k2 ≠ k1) :
    (∃ y z, putRes x k2 n2 = (y, false) ∧ putRes l k2 n2 = (z, false)) ∨ ∃ y z, putRes x k2 n2 = (y, true) ∧ putRes l k2 n2 = (z, true) ∧ putRes z k1 n1 = (y, true) := by
  obtain ⟨hR, rfl, hX⟩ := put_true h
  have hi := turn_ok (n2 := n2) hR hX hl hne
  have hok := rowsOk_true hR
  have hokx := rowsOk_true hX
  by_cases hb : RowsP (putL l k2 n2)
  · right
    have ha := hi.2 hb
    refine ⟨_, _, putRes_ok hokx (rowsOk_true ha), putRes_ok hok (rowsOk_true hb), ?_⟩
    rw [put_put hR hX hb hne] at ha ⊢
    exact putRes_ok (rowsOk_true hb) (rowsOk_true ha)
  · left
    exact ⟨_, _, putRes_full hokx (rowsOk_false fun h => hb (hi.1 h)), putRes_full hok (rowsOk_false hb)⟩
theorem cut_cut {l : List Row} {k1 k2 : ByteArray} (h : RowsP l) : cutL (cutL l k1) k2 = cutL (cutL l k2) k1 := by
  have h1 := cut_ok h k1
  have h2 := cut_ok h k2
  refine (srt_cutL h1.2.2 _).ext (srt_cutL h2.2.2 _) fun r => ?_
  rw [mem_cutL h1.2.2, mem_cutL h2.2.2, mem_cutL h.2.2, mem_cutL h.2.2]
  constructor <;> (rintro ⟨⟨a, b⟩, c⟩; exact ⟨⟨a, c⟩, b⟩)
theorem hit_cut {l : List Row} {key : ByteArray} (h : RowsP l) : hit (cutL l key) key = false := by
  cases hh : hit (cutL l key) key
  · rfl
  · obtain ⟨v, hv⟩ := (hit_iff (cut_ok h key).2.2).1 hh
    exact absurd rfl ((mem_cutL h.2.2).1 hv).2
theorem cut2_law {l x : List Row} {k1 k2 : ByteArray} {b : Bool} (hR : RowsP l) (h : cutRes l k1 = (x, b)) :
    (∃ y z b1 b2 b3, cutRes x k2 = (y, b1) ∧ cutRes l k2 = (z, b2) ∧ cutRes z k1 = (y, b3)) ∧ cutRes x k1 = (x, false) := by
  have hok := rowsOk_true hR
  rw [cutRes_eq hok] at h
  obtain ⟨rfl, -⟩ := Prod.mk.inj h
  have hx := cut_ok hR k1
  have hz := cut_ok hR k2
  refine ⟨⟨_, _, _, _, hit (cutL l k2) k1, cutRes_eq (rowsOk_true hx), cutRes_eq hok, ?_⟩, ?_⟩
  · rw [cutRes_eq (rowsOk_true hz), cut_cut hR]
  · rw [cutRes_eq (rowsOk_true hx), hit_cut hR, cutL_miss (hit_cut hR)]
/-- what is taken away can be put in again -/
theorem cut_put {l : List Row} {key : ByteArray} (hR : RowsP l) (hh : hit l key = true) : putRes (cutL l key) key (getNum l key) = (l, true) ∧ getHas (cutL l key) key = false := by
  have hx := cut_ok hR key
  obtain ⟨v, hv⟩ := (hit_iff hR.2.2).1 hh
  obtain ⟨-, hg⟩ := get_mem hR hv
  have he : putL (cutL l key) key (getNum l key) = l := by
    refine (srt_putL hx.2.2 _ _).ext (asc_srt.1 hR.2.2) fun r => ?_
    rw [mem_putL hx.2.2, mem_cutL hR.2.2, hg]
    constructor
    · rintro (rfl | ⟨⟨h, _⟩, _⟩)
      · exact hv
      · exact h
    · intro h
      by_cases hk : r.1 = key
      · left
        obtain ⟨a, b⟩ := r
        simp only at hk
        subst hk
        rw [(asc_srt.1 hR.2.2).inj h hv]
      · exact .inr ⟨⟨h, hk⟩, hk⟩
  refine ⟨?_, by rw [has_hit hx, hit_cut hR]⟩
  have := putRes_ok (l := cutL l key) (key := key) (num := getNum l key) (rowsOk_true hx) (by rw [he]; exact rowsOk_true hR)
  rw [this, he]
/-- what a put that succeeds leaves -/
theorem put_law {l x : List Row} {key : ByteArray} {num : Int} (h : putRes l key num = (x, true)) :
    getNum x key = num ∧ getHas x key = true ∧ putRes x key num = (x, true) ∧ rowsOk x = true ∧ (x.length = l.length ↔ getHas l key = true) ∧
    ∀ r ∈ l, ∃ v, getNum x r.1 = v ∧ getHas x r.1 = true ∧ (r.1 ≠ key → v = r.2) := by
  obtain ⟨hR, rfl, hX⟩ := put_true h
  have hm := get_mem hX ((mem_putL hR.2.2).2 (.inl rfl))
  have he : putL (putL l key num) key num = putL l key num := by
    refine (srt_putL hX.2.2 _ _).ext (srt_putL hR.2.2 _ _) fun r => ?_
    rw [mem_putL hX.2.2, mem_putL hR.2.2]
    constructor
    · rintro (h | ⟨h, _⟩)
      · exact .inl h
      · exact h
    · rintro (h | ⟨h, h2⟩)
      · exact .inl h
      · exact .inr ⟨.inr ⟨h, h2⟩, h2⟩
  refine ⟨hm.2, hm.1, ?_, rowsOk_true hX, ?_, ?_⟩
  · have := putRes_ok (l := putL l key num) (key := key) (num := num) (rowsOk_true hX) (by rw [he]; exact rowsOk_true hX)
    rw [this, he]
  · rw [has_hit hR, putL_length]
    cases hit l key <;> simp
  · intro r hr
    by_cases hk : r.1 = key
    · rw [hk]; exact ⟨_, rfl, hm.1, fun h => absurd rfl h⟩
    · have := get_mem hX ((mem_putL (r := r) hR.2.2).2 (.inr ⟨hr, hk⟩))
      exact ⟨_, rfl, this.1, fun _ => this.2⟩
end Go.Proofs.Ytndeehlndbdonaa
