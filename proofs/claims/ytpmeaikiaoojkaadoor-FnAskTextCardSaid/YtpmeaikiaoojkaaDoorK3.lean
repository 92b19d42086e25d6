/- Words for memory, third part: append of a slice that reads as a list onto an owned row; cuts. No program in sight. -/
import Derived.Test.YtpmeaikiaoojkaaDoorK2
import Derived.RegionTactic
import Derived.OwnWalk
namespace Go.Proofs.YtpmeaikiaoojkaaDoor
open Go.RowKit
section
variable {P : Program} (w : World) {α : Type} {enc : α → List Value}
theorem run_append_sl (base : Nat) (t ty e : TypeId) (i : TypeInfo) (z : Value) (size bytes : Nat) (ht : P.underlying t = some (.slice e)) (hi : P.info? e = some i) (hz : i.zero = some z)
    (hsize : i.size = size) (hby : i.bytes = bytes) (hzs : z.cells.size = size) (hsz : 0 < size) (henc : ∀ x, (enc x).length = size) (h1 : ∀ x, ∀ u ∈ enc x, u.oneCell' = true)
    (v : Value) (l : List α) (hown : Own enc size e w base v l)
    (B : Nat) (A : Option Addr) (m c : Nat) (l2 : List α) (hr : Sl enc w B A m l2)
    (h63 : l.length + m ≤ maxLen) (hbytes : (l.length + m) * bytes ≤ 140737488355328) (hbase : base ≤ w.heap.size) :
    ∃ v' w', (Builtin.append_ #[t, t] ty #[v, .slice A m c]).run P w = .ok v' w' ∧ Own enc size e w' base v' (l ++ l2) ∧ w.grownBy w' v.ownBlock := by
  have hlen := hr.len
  have fin : ∀ {v' : Value} {w' : World}, w'.ownsRow base e size v' (l.length + m) (cellsOf enc l ++ cellsOf enc l2) → Own enc size e w' base v' (l ++ l2) := by
    intro v' w' h
    unfold Own
    rw [cellsOf_append, List.length_append, hlen]
    exact h
  rcases A with _ | ad
  · have hm : m = 0 := by
      rcases Nat.eq_zero_or_pos m with h0 | h0
      · exact h0
      · obtain ⟨b, off, h, _⟩ := hr.spot h0
        cases h
    subst hm
    have hn : l2 = [] := hr.nil_of
    subst hn
    refine ⟨v, w, ?_, by rw [List.append_nil]; exact hown, ⟨rfl, rfl, rfl, Nat.le_refl _, fun _ _ _ => rfl⟩⟩
    have hown' : w.ownsRow base e size v l.length (cellsOf enc l) := hown
    rcases hown'.2 with ⟨rfl, hl0⟩ | ⟨g, cap, cur, rfl, _, _, hnc, _⟩
    · simp [Builtin.append_, run_underlying ht, sizeOf, typeInfo, hi, Builtin.lenOf, Builtin.firstCells]
    · simp [Builtin.append_, run_underlying ht, sizeOf, typeInfo, hi, Builtin.lenOf, Builtin.firstCells, hnc, storeCells]
  · have hcells : ∀ j u, (cellsOf enc l2)[j]? = some u → w.cell? (ad.add j) = some u := by
      intro j u hu
      rcases Nat.eq_zero_or_pos m with h0 | h0
      · subst h0
        rw [hr.nil_of] at hu
        simp [cellsOf] at hu
      · obtain ⟨b, off, h, _⟩ := hr.spot h0
        injection h with h
        subst h
        have := (hr.cells h0).2 j u hu
        have hadd : (⟨b, off, none⟩ : Addr).add j = ⟨b, off + j, none⟩ := by unfold Addr.add; split <;> simp_all
        rw [hadd]; exact this
    obtain ⟨v', w', hrun, h2, h3, _⟩ := run_append_own (P := P) w base t ty e i z size bytes ht hi hz hsize hby hzs hsz v l.length (cellsOf enc l) hown ad m c (cellsOf enc l2)
      (by rw [cellsOf_length henc, hlen]) hcells (cellsOf_mem h1 l2) h63 hbytes hbase
    exact ⟨v', w', hrun, fin h2, h3⟩

theorem wp_append_sl {o : Oper} {a : Act} {K : Act → World → Prop} {Q : Exit → Act → World → Prop} (s x : Operand) (t : TypeId)
    (ho : o.op = .call { callee := .builtin .append, args := #[s, x], argTypes := #[t, t] })
    (base : Nat) (e : TypeId) (i : TypeInfo) (z : Value) (size bytes : Nat) (ht : P.underlying t = some (.slice e)) (hi : P.info? e = some i) (hz : i.zero = some z)
    (hsize : i.size = size) (hby : i.bytes = bytes) (hzs : z.cells.size = size) (hsz : 0 < size) (henc : ∀ x, (enc x).length = size) (h1 : ∀ x, ∀ u ∈ enc x, u.oneCell' = true)
    (v : Value) (l : List α) (hs : a.eval s = v) (hown : Own enc size e w base v l)
    (B : Nat) (A : Option Addr) (m c : Nat) (l2 : List α) (hx : a.eval x = .slice A m c) (hr : Sl enc w B A m l2)
    (h63 : l.length + m ≤ maxLen) (hbytes : (l.length + m) * bytes ≤ 140737488355328) (hbase : base ≤ w.heap.size)
    (h : ∀ v' w', Own enc size e w' base v' (l ++ l2) → w.grownBy w' v.ownBlock → K (a.put o.dst v') w') : o.wp P a w K Q := by
  obtain ⟨v', w', hrun, h2, h3⟩ := run_append_sl (P := P) w base t o.type e i z size bytes ht hi hz hsize hby hzs hsz henc h1 v l hown B A m c l2 hr h63 hbytes hbase
  unfold Oper.wp execOp
  simp only [ho, resolve, invoke, builtin, Sem.run_bind, Sem.run_pure, Result.andThen_ok, List.map_toArray, List.map_cons, List.map_nil, hs, hx, hrun]
  exact h v' w' h2 h3

theorem wpList_append_sl {ops : Array Oper} {rest : List Oper} {o : Oper} {a : Act} {Q : Exit → Act → World → Prop} (hgd : o.guard = none) (s x : Operand) (t : TypeId)
    (ho : o.op = .call { callee := .builtin .append, args := #[s, x], argTypes := #[t, t] })
    (base : Nat) (e : TypeId) (i : TypeInfo) (z : Value) (size bytes : Nat) (ht : P.underlying t = some (.slice e)) (hi : P.info? e = some i) (hz : i.zero = some z)
    (hsize : i.size = size) (hby : i.bytes = bytes) (hzs : z.cells.size = size) (hsz : 0 < size) (henc : ∀ x, (enc x).length = size) (h1 : ∀ x, ∀ u ∈ enc x, u.oneCell' = true)
    (v : Value) (l : List α) (hs : a.eval s = v) (hown : Own enc size e w base v l)
    (B : Nat) (A : Option Addr) (m c : Nat) (l2 : List α) (hx : a.eval x = .slice A m c) (hr : Sl enc w B A m l2)
    (h63 : l.length + m ≤ maxLen) (hbytes : (l.length + m) * bytes ≤ 140737488355328) (hbase : base ≤ w.heap.size)
    (h : ∀ v' w', Own enc size e w' base v' (l ++ l2) → w.grownBy w' v.ownBlock → wpList P ops Q rest (a.put o.dst v') w') : wpList P ops Q (o :: rest) a w :=
  wpList_plain hgd fun _ hK => wp_append_sl w s x t ho base e i z size bytes ht hi hz hsize hby hzs hsz henc h1 v l hs hown B A m c l2 hx hr h63 hbytes hbase fun v' w' h2 h3 => hK _ _ (h v' w' h2 h3)

theorem step_append_sl {ops : Array Oper} {o : Oper} {a : Act} {K : Act → World → Prop} {Q : Exit → Act → World → Prop} {E : Prop} (hgd : o.guard = none) (s x : Operand) (t : TypeId)
    (ho : o.op = .call { callee := .builtin .append, args := #[s, x], argTypes := #[t, t] })
    (base : Nat) (e : TypeId) (i : TypeInfo) (z : Value) (size bytes : Nat) (ht : P.underlying t = some (.slice e)) (hi : P.info? e = some i) (hz : i.zero = some z)
    (hsize : i.size = size) (hby : i.bytes = bytes) (hzs : z.cells.size = size) (hsz : 0 < size) (henc : ∀ x, (enc x).length = size) (h1 : ∀ x, ∀ u ∈ enc x, u.oneCell' = true)
    (v : Value) (l : List α) (hs : a.eval s = v) (hown : Own enc size e w base v l)
    (B : Nat) (A : Option Addr) (m c : Nat) (l2 : List α) (hx : a.eval x = .slice A m c) (hr : Sl enc w B A m l2)
    (h63 : l.length + m ≤ maxLen) (hbytes : (l.length + m) * bytes ≤ 140737488355328) (hbase : base ≤ w.heap.size)
    (h : ∀ v' w', Own enc size e w' base v' (l ++ l2) → w.grownBy w' v.ownBlock → K (a.put o.dst v') w') :
    if Region.wanted o (yielded ops a.tmps) = true then Oper.wp P o a w K Q else E := by
  have hw : Region.wanted o (yielded ops a.tmps) = true := by simp [Region.wanted, hgd]
  rw [if_pos hw]
  exact wp_append_sl w s x t ho base e i z size bytes ht hi hz hsize hby hzs hsz henc h1 v l hs hown B A m c l2 hx hr h63 hbytes hbase h
end
section
variable {α : Type} {enc : α → List Value} {sz : Nat} {e : TypeId} {w w' : World} {base n c : Nat} {A : Option Addr} {v : Value} {l : List α}
/-- a row laid by a literal of one element -/
theorem Sl.lit1 (w : World) (cs : Array Value) (t : TypeId) (x : α) (h : cs.toList = enc x) : Sl enc (w.alloc (.cells cs t)) ((w.alloc (.cells cs t)).heap.size) (some ⟨w.heap.size, 0, none⟩) 1 [x] := by
  refine ⟨rfl, fun _ => ⟨w.heap.size, 0, rfl, by simp, fun j u hu => ?_⟩⟩
  rw [cellsOf_one, ← h] at hu
  rw [Nat.zero_add, cell_of_row _ w.heap.size j cs t (0, 0) (heap_alloc_new w _)]
  simpa using hu
/-- a cut 's[:k]' of whatever slice -/
theorem Sl.head {B k : Nat} (hs : ∀ x, (enc x).length = sz) (h : Sl enc w B A n l) (hk : k ≤ n) : Sl enc w B A k (l.take k) := by
  refine ⟨by rw [List.length_take, h.len]; omega, fun hk0 => ?_⟩
  obtain ⟨b, off, rfl, hb⟩ := h.spot (by omega)
  obtain ⟨h2, h3⟩ := h.cells (by omega)
  refine ⟨b, off, rfl, h2, fun j u hu => ?_⟩
  rw [cellsOf_take hs, List.getElem?_take] at hu
  split at hu
  · exact h3 j u hu
  · cases hu
/-- a cut 's[k:]' of a slice with an address -/
theorem Sl.rest {B b off k : Nat} (hs : ∀ x, (enc x).length = sz) (h : Sl enc w B (some ⟨b, off, none⟩) n l) (hk : k ≤ n) (hc : n ≤ c) :
    Sl enc w B (if c = k then some ⟨b, off, none⟩ else some ⟨b, off + k * sz, none⟩) (n - k) (l.drop k) := by
  by_cases h1 : c = k
  · rw [if_pos h1]
    have hl : l.drop k = [] := List.drop_of_length_le (by rw [h.len]; omega)
    rw [hl, show n - k = 0 by omega]
    exact Sl.nil _ _ _ _
  · rw [if_neg h1]
    have := h.cut hs k n hk (Nat.le_refl _)
    rwa [List.take_of_length_le (by rw [List.length_drop, h.len]; exact Nat.le_refl _)] at this
theorem Own.made0 (w : World) (h : base ≤ w.heap.size) : Own enc sz e (w.alloc (.cells #[] e)) base (.slice (some ⟨w.heap.size, 0, none⟩) 0 0) ([] : List α) := by
  unfold Own
  exact World.ownsRow_lit w #[] 0 h (by simp [maxLen]) (by simp)
theorem Own.madeCap (w : World) (cs : Array Value) (cap : Nat) (h : base ≤ w.heap.size) (hm : cap ≤ maxLen) (hs : cs.size = cap * sz) : Own enc sz e (w.alloc (.cells cs e)) base (.slice (some ⟨w.heap.size, 0, none⟩) 0 cap) ([] : List α) :=
  World.ownsRow_made w cs cap h hm hs
theorem Own.drewN (h : Own enc sz e w base v l) (k : Nat) : Own enc sz e (w.drewN k) base v l := h
theorem Own.drew (h : Own enc sz e w base v l) : Own enc sz e w.drew base v l := h
theorem Own.alloc (h : Own enc sz e w base v l) (o : Obj) : Own enc sz e (w.alloc o) base v l := World.ownsRow.alloc h o
end
end Go.Proofs.YtpmeaikiaoojkaaDoor
