/-
  Slices of bytes of the call's own that begin anywhere in their block ('rest = rest[64:]', then append). Over any program; no condition beyond those each theorem names.
-/
import Derived.Test.YtheljogmnalbmaaDoorArr
import Derived.Deep.Upon
namespace Go.Proofs.YtheljogmnalbmaaDoor
open Go.RowKit

/-- An own slice of bytes, beginning anywhere in a block from 'lo' on. -/
def OwnO (w : World) (lo : Nat) (A : Option Addr) (n c : Nat) (bs : List UInt8) : Prop :=
  bs.length = n ∧ n ≤ c ∧ c ≤ maxLen ∧ (0 < c → ∃ g o, A = some ⟨g, o, none⟩ ∧ lo ≤ g ∧ g < w.heap.size ∧ (∀ j, j < n → w.cell? ⟨g, o + j, none⟩ = (bs.map bv)[j]?) ∧ (∀ j, j < c → (w.cell? ⟨g, o + j, none⟩).isSome = true ∧ w.frozen? ⟨g, o + j, none⟩ = false))
section
variable {w w' : World} {lo n c : Nat} {A : Option Addr} {bs : List UInt8}
theorem OwnO.nil (w : World) (lo : Nat) (A : Option Addr) : OwnO w lo A 0 0 [] := ⟨rfl, Nat.le_refl _, Nat.zero_le _, fun h => absurd h (by omega)⟩
theorem OwnO.rd (h : OwnO w lo A n c bs) : Rd w lo 1 A n (bs.map bv) := by
  refine ⟨by simp [h.1], fun hn => ?_⟩
  have := h.2.1
  obtain ⟨g, o, e, hl, _, hc, _⟩ := h.2.2.2 (by omega)
  exact ⟨g, o, e, hl, fun j hj => hc j (by omega)⟩
theorem OwnO.keep (h : OwnO w lo A n c bs) (hs : w.heap.size ≤ w'.heap.size) (hk : ∀ b, b < w.heap.size → rowOf A c = some b → w'.heap[b]? = w.heap[b]?) : OwnO w' lo A n c bs := by
  refine ⟨h.1, h.2.1, h.2.2.1, fun hc => ?_⟩
  obtain ⟨g, o, e, hl, hg, h1, h2⟩ := h.2.2.2 hc
  have hb := hk g hg (by simp [rowOf, e]; omega)
  exact ⟨g, o, e, hl, by omega, fun j hj => (World.cell?_of_block (a := ⟨g, o + j, none⟩) hb).trans (h1 j hj), fun j hj => ⟨by rw [World.cell?_of_block (a := ⟨g, o + j, none⟩) hb]; exact (h2 j hj).1, (World.frozen?_of_block (a := ⟨g, o + j, none⟩) hb).trans (h2 j hj).2⟩⟩
theorem OwnO.below (h : OwnO w lo A n c bs) (hb : Below w.heap.size w w') : OwnO w' lo A n c bs := h.keep hb.size fun b hlt _ => hb.block b hlt
theorem OwnO.alloc (h : OwnO w lo A n c bs) (o : Obj) : OwnO (w.alloc o) lo A n c bs := h.keep (by simp) fun b hb _ => Below.heap_alloc w o b hb
theorem OwnO.drew (h : OwnO w lo A n c bs) : OwnO w.drew lo A n c bs := h
theorem OwnO.grown {row : Option Nat} (h : OwnO w lo A n c bs) (hg : w.grownBy w' row) (hne : ∀ g, row = some g → g < lo) : OwnO w' lo A n c bs := by
  refine h.keep hg.size fun b hb hr => hg.block b hb fun er => ?_
  have h1 := hne b er.symm
  by_cases hc : c = 0
  · simp [rowOf, hc] at hr
  · obtain ⟨g, o, e, hl, _⟩ := h.2.2.2 (by omega)
    simp [rowOf, hc, e] at hr
    omega
theorem OwnO.row (h : OwnO w lo A n c bs) : ∀ g, rowOf A c = some g → lo ≤ g := by
  intro b hr
  by_cases hc : c = 0
  · simp [rowOf, hc] at hr
  · obtain ⟨g, o, e, hl, _⟩ := h.2.2.2 (by omega)
    simp [rowOf, hc, e] at hr
    omega
/-- 's[k:]' at k = cap. -/
theorem OwnO.dropE (h : OwnO w lo A n c bs) {k : Nat} (hk : k ≤ n) (e : c = k) : OwnO w lo A (n - k) (c - k) (bs.drop k) := by
  have := h.2.1
  obtain rfl : c = 0 + k := by omega
  obtain rfl : n = 0 + k := by omega
  rw [Nat.add_sub_cancel, List.drop_of_length_le (by rw [h.1]; omega)]
  exact OwnO.nil _ _ _
/-- 's[k:]' below cap. -/
theorem OwnO.dropN (h : OwnO w lo A n c bs) {k : Nat} (hk : k ≤ n) (e : c ≠ k) : OwnO w lo (A.map fun x => ⟨x.block, x.off + k, none⟩) (n - k) (c - k) (bs.drop k) := by
  have hnc := h.2.1
  have hm := h.2.2.1
  obtain ⟨g, o, rfl, hl, hg, h1, h2⟩ := h.2.2.2 (by omega)
  refine ⟨by rw [List.length_drop, h.1], by omega, by omega, fun _ => ⟨g, o + k, rfl, hl, hg, fun j hj => ?_, fun j hj => ?_⟩⟩
  · rw [Nat.add_assoc, h1 _ (by omega), List.map_drop, List.getElem?_drop]
  · rw [Nat.add_assoc]
    exact h2 _ (by omega)
end
section
variable {P : Program} (w : World)
theorem run_appO (lo : Nat) (t ty e : TypeId) (i : TypeInfo) (z : Value) (ht : P.underlying t = some (.slice e)) (hi : P.info? e = some i) (hz : i.zero = some z)
    (hsize : i.size = 1) (hby : i.bytes = 1) (hzs : z.cells.size = 1)
    (D : Option Addr) (n c : Nat) (bs : List UInt8) (hown : OwnO w lo D n c bs)
    (A : Option Addr) (m cc lo2 : Nat) (news : List UInt8) (hr : Rd w lo2 1 A m (news.map bv))
    (h63 : n + m ≤ maxLen) (hbytes : (n + m) ≤ 140737488355328) (hlo : lo ≤ w.heap.size) :
    ∃ D' c' w', (Builtin.append_ #[t, t] ty #[.slice D n c, .slice A m cc]).run P w = .ok (.slice D' (n + m) c') w' ∧ OwnO w' lo D' (n + m) c' (bs ++ news) ∧ w.grownBy w' (rowOf D c) := by
  have hml : news.length = m := by simpa using hr.1
  have hnl := hown.1
  have hnc := hown.2.1
  rcases Nat.eq_zero_or_pos m with hm | hm
  · subst hm
    obtain rfl : news = [] := List.eq_nil_of_length_eq_zero hml
    have hs : Src P i.size t (.slice A 0 cc) 0 [] w := by
      cases A with
      | none => exact Src.ofNil w ht cc
      | some a => exact Src.ofSlice w ht a 0 cc [] (by simp) (fun j u h => by simp at h) (fun u h => by cases h)
    exact ⟨D, c, w, run_append_nothing w t t ty e i ht hi D n c hnc _ hs, by simpa using hown, World.grownBy.refl w _⟩
  · obtain ⟨b, o, rfl, _, _, hcell⟩ := hr.lt (by omega)
    have hs : Src P i.size t (.slice (some ⟨b, o, none⟩) m cc) m (news.map bv) w := by
      refine Src.ofSlice w ht ⟨b, o, none⟩ m cc _ (by rw [hsize]; simp [hml]) (fun j u hu => ?_) (bv_one news)
      have hj : j < m := by
        have := (List.getElem?_eq_some_iff.1 hu).1
        simp at this
        omega
      rw [add_lit, hcell j (by omega), hu]
    by_cases hroom : n + m ≤ c
    · obtain ⟨g, off, rfl, hl, hg, h1, h2⟩ := hown.2.2.2 (by omega)
      have hlen : (news.map bv).length = m := by simp [hml]
      have hrun := run_append_room_src (P := P) w t t ty e i ht hi g off n c (.slice (some ⟨b, o, none⟩) m cc) m (news.map bv) hs hroom
        (fun j hj => by rw [hsize, Nat.mul_one, Nat.add_assoc]; exact (h2 _ (by omega)).1) (fun j hj => by rw [hsize, Nat.mul_one, Nat.add_assoc]; exact (h2 _ (by omega)).2)
      rw [hsize, Nat.mul_one] at hrun
      obtain ⟨r1, r2, r3, r4⟩ := setCells_rest g (news.map bv) (off + n) w
      refine ⟨_, _, _, hrun, ⟨by simp [hnl, hml], hroom, hown.2.2.1, fun _ => ⟨g, off, rfl, hl, by omega, fun j hj => ?_, fun j hj => ⟨World.isSome_setCells _ _ _ _ _ (h2 j hj).1, (World.frozen?_setCells _ _ _ _ _).trans (h2 j hj).2⟩⟩⟩, ⟨r1, r2, r3, by omega, fun k _ hk => setCells_other g _ _ w k (fun e => hk (by simp [rowOf, e]; omega))⟩⟩
      by_cases hjn : j < n
      · rw [World.cell?_setCells_out g _ _ _ _ (fun _ _ => .inl (by simp; omega)), h1 j hjn, List.map_append, List.getElem?_append_left (by simp; omega)]
      · have := World.cell?_setCells_in g (news.map bv) (off + n) w (fun k hk => by rw [Nat.add_assoc]; exact (h2 _ (by omega)).1) (j - n) (by omega)
        rw [show off + n + (j - n) = off + j by omega] at this
        have e1 : (bs.map bv).length = n := by simp [hnl]
        rw [this, List.map_append, List.getElem?_append_right (by omega), e1]
        exact (List.getElem?_eq_getElem (by omega)).symm
    · have hold : (Builtin.firstCells i.size n (.slice D n c)).run P w.drew = .ok (bs.map bv).toArray w.drew := by
        rw [hsize]
        by_cases hc0 : c = 0
        · subst hc0
          obtain rfl : n = 0 := by omega
          obtain rfl : bs = [] := List.eq_nil_of_length_eq_zero hnl
          cases D with
          | none => exact run_firstCells_none w.drew 1 0 0 0
          | some a => exact run_firstCells_some w.drew 1 0 a 0 0 [] (by simp) (fun j v h => by simp at h)
        · obtain ⟨g, off, rfl, hl, hg, h1, h2⟩ := hown.2.2.2 (by omega)
          refine run_firstCells_some w.drew 1 n ⟨g, off, none⟩ n c _ (by simp [hnl]) (fun j v hv => ?_)
          have hj : j < n := by
            have := (List.getElem?_eq_some_iff.1 hv).1
            simp at this
            omega
          rw [add_lit]
          exact (h1 j hj).trans hv
      have hg : c < n + m := by omega
      have hrun := run_append_grow_src (P := P) w t t ty e i z ht hi hz D n c (bs.map bv) hold (.slice (some ⟨b, o, none⟩) m cc) m (news.map bv) hs hg (by simp only [maxLen] at h63; omega) (growslice_fits hg (by rw [hby]; omega))
      have hge := grownCap_ge w (n + m) c e
      have hcm := grownCap_le_maxLen w (n + m) c e h63
      generalize hG : grownCap w (n + m) c e = G at *
      have hblk : (w.drew.alloc (.cells ((bs.map bv ++ news.map bv).toArray ++ Builtin.zeroCells z.cells (G - (n + m))) e)).heap[w.heap.size]? = some (.cells ((bs.map bv ++ news.map bv).toArray ++ Builtin.zeroCells z.cells (G - (n + m))) e (0, 0)) := heap_alloc_new w.drew _
      have hsz : ((bs.map bv ++ news.map bv).toArray ++ Builtin.zeroCells z.cells (G - (n + m))).size = G := by
        simp only [Array.size_append, List.size_toArray, size_zeroCells, hzs, List.length_append, List.length_map, hnl, hml]
        omega
      refine ⟨_, _, _, hrun, ⟨by simp [hnl, hml], hge, hcm, fun _ => ⟨w.heap.size, 0, rfl, hlo, by simp, fun j hj => ?_, fun j hj => ⟨?_, frozen_of_row _ _ _ _ _ hblk⟩⟩⟩, ⟨rfl, rfl, rfl, by simp, fun k hk _ => Below.heap_alloc w.drew _ k hk⟩⟩
      · rw [Nat.zero_add, cell_of_row _ _ _ _ _ _ hblk, Array.getElem?_append_left (by simp [hnl, hml]; omega)]
        simp
      · rw [Nat.zero_add, cell_of_row _ _ _ _ _ _ hblk, Array.getElem?_eq_getElem (by omega)]
        rfl
theorem wpList_appO {ops : Array Oper} {rest : List Oper} {o : Oper} {a : Act} {Q : Exit → Act → World → Prop} (hgd : o.guard = none) (s x : Operand) (t : TypeId)
    (ho : o.op = .call { callee := .builtin .append, args := #[s, x], argTypes := #[t, t] })
    (lo : Nat) (e : TypeId) (i : TypeInfo) (z : Value) (ht : P.underlying t = some (.slice e)) (hi : P.info? e = some i) (hz : i.zero = some z)
    (hsize : i.size = 1) (hby : i.bytes = 1) (hzs : z.cells.size = 1)
    (D : Option Addr) (n c : Nat) (bs : List UInt8) (hs : a.eval s = .slice D n c) (hown : OwnO w lo D n c bs)
    (A : Option Addr) (m cc lo2 : Nat) (news : List UInt8) (hx : a.eval x = .slice A m cc) (hr : Rd w lo2 1 A m (news.map bv))
    (h63 : n + m ≤ maxLen) (hbytes : (n + m) ≤ 140737488355328) (hlo : lo ≤ w.heap.size)
    (h : ∀ D' c' w', OwnO w' lo D' (n + m) c' (bs ++ news) → w.grownBy w' (rowOf D c) → wpList P ops Q rest (a.put o.dst (.slice D' (n + m) c')) w') :
    wpList P ops Q (o :: rest) a w := by
  obtain ⟨D', c', w', hrun, h2, h3⟩ := run_appO (P := P) w lo t o.type e i z ht hi hz hsize hby hzs D n c bs hown A m cc lo2 news hr h63 hbytes hlo
  refine wpList_plain hgd fun K hK => ?_
  unfold Oper.wp execOp
  simp only [ho, resolve, invoke, builtin, Sem.run_bind, Sem.run_pure, Result.andThen_ok, List.map_toArray, List.map_cons, List.map_nil, hs, hx, hrun]
  exact hK _ _ (h D' c' w' h2 h3)
end
end Go.Proofs.YtheljogmnalbmaaDoor
