/-
  Words and laws over any program, used by all proofs of this seat: what a slice reads as ('Rd'), a row of the call's own ('Own'), a block of bytes that may be written ('BB'), append, conversion to a string, cuts. No condition beyond those each theorem names.
-/
import Derived.Test.YtheljogmnalbmaaDoorRows
import Derived.WalkKit
import Derived.WalkSpells
import Derived.WalkLawsBesides
import Derived.Maps.AppendAt
import Derived.Deep.Draws
import Derived.Laws.BytesArg
import Derived.Laws.BitsAllLaws
namespace Go.Proofs.YtheljogmnalbmaaDoor
open Go.RowKit

/-- A fact kept from the walk. -/
theorem hid {p : Prop} (h : p) : Hid p := h

/-- A byte as a value. -/
def bv (b : UInt8) : Value := .int .u8 (b.toNat : Int)
theorem bv_one (bs : List UInt8) : ∀ u ∈ bs.map bv, u.oneCell' = true := by
  intro u hu
  simp only [List.mem_map] at hu
  obtain ⟨b, _, rfl⟩ := hu
  rfl

theorem add_lit (b o j : Nat) : (⟨b, o, none⟩ : Addr).add j = ⟨b, o + j, none⟩ := by unfold Addr.add; split <;> simp_all

/-- The slice value '.slice A n c' reads as the cells xs (size cells each element): its cells lie in one block from 'lo' on. -/
def Rd (w : World) (lo sz : Nat) (A : Option Addr) (n : Nat) (xs : List Value) : Prop :=
  xs.length = n * sz ∧ (0 < n * sz → ∃ b o, A = some ⟨b, o, none⟩ ∧ lo ≤ b ∧ ∀ j, j < n * sz → w.cell? ⟨b, o + j, none⟩ = xs[j]?)

/-- The slice value '.slice A n c' is the call's own: either it has no capacity, or it begins at the head of a block from 'lo' on, of element type e, none of it frozen, whose first cells are xs. -/
def Own (w : World) (lo : Nat) (e : TypeId) (sz : Nat) (A : Option Addr) (n c : Nat) (xs : List Value) : Prop :=
  (n = 0 ∧ c = 0 ∧ xs = []) ∨
  ∃ g cur, A = some ⟨g, 0, none⟩ ∧ lo ≤ g ∧ w.heap[g]? = some (.cells cur e (0, 0)) ∧ n ≤ c ∧ c ≤ maxLen ∧ cur.size = c * sz ∧ cur.toList.take (n * sz) = xs

/-- The block that an append to such a slice may write. -/
def rowOf (A : Option Addr) (c : Nat) : Option Nat := if c = 0 then none else A.map (·.block)

section
variable {w w' : World} {lo lo' sz n c : Nat} {e : TypeId} {A : Option Addr} {xs : List Value}

theorem cell_lt {a : Addr} {v : Value} (h : w.cell? a = some v) : a.block < w.heap.size := World.block_lt_of_cell? w a h

theorem Rd.nil (w : World) (lo sz : Nat) (A : Option Addr) : Rd w lo sz A 0 [] := ⟨by simp, fun h => by simp at h⟩
theorem Rd.low (h : Rd w lo sz A n xs) (hl : lo' ≤ lo) : Rd w lo' sz A n xs :=
  ⟨h.1, fun hn => by obtain ⟨b, o, e, hb, hc⟩ := h.2 hn; exact ⟨b, o, e, by omega, hc⟩⟩
theorem Rd.lt (h : Rd w lo sz A n xs) (hn : 0 < n * sz) : ∃ b o, A = some ⟨b, o, none⟩ ∧ lo ≤ b ∧ b < w.heap.size ∧ ∀ j, j < n * sz → w.cell? ⟨b, o + j, none⟩ = xs[j]? := by
  obtain ⟨b, o, e, hb, hc⟩ := h.2 hn
  have h0 := hc 0 hn
  have hl : 0 < xs.length := by rw [h.1]; exact hn
  rw [List.getElem?_eq_getElem hl] at h0
  exact ⟨b, o, e, hb, cell_lt h0, hc⟩
theorem Rd.keep (h : Rd w lo sz A n xs) (hk : ∀ b, b < w.heap.size → (∃ o, A = some ⟨b, o, none⟩) → w'.heap[b]? = w.heap[b]?) : Rd w' lo sz A n xs :=
  ⟨h.1, fun hn => by
    obtain ⟨b, o, e, hb, hlt, hc⟩ := h.lt hn
    exact ⟨b, o, e, hb, fun j hj => (World.cell?_of_block (hk b hlt ⟨o, e⟩)).trans (hc j hj)⟩⟩
theorem Rd.below (h : Rd w lo sz A n xs) (hb : Below w.heap.size w w') : Rd w' lo sz A n xs := h.keep fun b hlt _ => hb.block b hlt
theorem Rd.drew (h : Rd w lo sz A n xs) : Rd w.drew lo sz A n xs := h
theorem Rd.alloc (h : Rd w lo sz A n xs) (o : Obj) : Rd (w.alloc o) lo sz A n xs := h.keep fun b hb _ => Below.heap_alloc w o b hb
theorem Rd.grown {row : Option Nat} (h : Rd w lo sz A n xs) (hg : w.grownBy w' row) (hne : ∀ g, row = some g → ∀ o, A ≠ some ⟨g, o, none⟩) : Rd w' lo sz A n xs :=
  h.keep fun b hb ⟨o, ho⟩ => hg.block b hb fun er => hne b er.symm o ho
/-- behind writes to a row that lies below 'lo' -/
theorem Rd.grown_lo {row : Option Nat} (h : Rd w lo sz A n xs) (hg : w.grownBy w' row) (hr : ∀ g, row = some g → g < lo) : Rd w' lo sz A n xs :=
  ⟨h.1, fun hn => by
    obtain ⟨b, o, e, hb, hlt, hc⟩ := h.lt hn
    exact ⟨b, o, e, hb, fun j hj => (World.cell?_of_block (hg.block b hlt (fun er => by have := hr b er.symm; omega))).trans (hc j hj)⟩⟩
theorem Rd.at_ (h : Rd w lo 1 A n xs) {k : Nat} (hk : k < n) : ∃ b o u, A = some ⟨b, o, none⟩ ∧ lo ≤ b ∧ xs[k]? = some u ∧ w.cell? ⟨b, o + k, none⟩ = some u := by
  obtain ⟨b, o, e, hb, hc⟩ := h.2 (by omega)
  have hl : k < xs.length := by rw [h.1]; omega
  exact ⟨b, o, xs[k], e, hb, List.getElem?_eq_getElem hl, by rw [hc k (by omega), List.getElem?_eq_getElem hl]⟩
/-- 's[:k]' -/
theorem Rd.take (h : Rd w lo sz A n xs) {k : Nat} (hk : k ≤ n) : Rd w lo sz A k (xs.take (k * sz)) := by
  have hm : k * sz ≤ n * sz := Nat.mul_le_mul_right _ hk
  refine ⟨by rw [List.length_take, h.1]; omega, fun hn => ?_⟩
  obtain ⟨b, o, e, hb, hc⟩ := h.2 (by omega)
  exact ⟨b, o, e, hb, fun j hj => by rw [hc j (by omega), List.getElem?_take, if_pos hj]⟩
/-- 's[k:]', as the walk writes it. -/
theorem Rd.drop (h : Rd w lo sz A n xs) {k cap : Nat} (hk : k ≤ n) (hc : n ≤ cap) : Rd w lo sz (if cap = k then A else A.map (·.add (k * sz))) (n - k) (xs.drop (k * sz)) := by
  have hm : (n - k) * sz = n * sz - k * sz := Nat.sub_mul _ _ _
  refine ⟨by rw [List.length_drop, h.1, hm], fun hn => ?_⟩
  have hnk : 0 < n - k := Nat.pos_of_mul_pos_right hn
  obtain ⟨b, o, rfl, hb, hcell⟩ := h.2 (by omega)
  rw [if_neg (by omega)]
  refine ⟨b, o + k * sz, by simp [add_lit], hb, fun j hj => ?_⟩
  rw [Nat.add_assoc, hcell _ (by omega), List.getElem?_drop]

/-- 's[k:]' of bytes: the two forms in which the walk leaves it. -/
theorem Rd.dropB {bs : List UInt8} (h : Rd w lo 1 A n (bs.map bv)) {k : Nat} (hk : k ≤ n) : Rd w lo 1 (A.map fun x => x.add k) (n - k) ((bs.drop k).map bv) := by
  have := h.drop (k := k) (cap := n + k + 1) hk (by omega)
  rw [if_neg (by omega)] at this
  simpa using this
theorem Rd.dropE {bs : List UInt8} (h : Rd w lo 1 A n (bs.map bv)) {k c : Nat} (hk : k ≤ n) (hc : n ≤ c) (e : c = k) : Rd w lo 1 A (n - k) ((bs.drop k).map bv) := by
  have := h.drop (k := k) (cap := c) hk hc
  rw [if_pos e] at this
  simpa using this
theorem Rd.dropF {bs : List UInt8} (h : Rd w lo 1 A n (bs.map bv)) {k c : Nat} (hk : k ≤ n) (hc : n ≤ c) : Rd w lo 1 (if c = k then A else A.map fun x => x.add k) (n - k) ((bs.drop k).map bv) := by
  have := h.drop (k := k) (cap := c) hk hc
  simpa using this
/-- ' s[2:]', where the walk knows the number. -/
theorem Rd.dropL {bs : List UInt8} (h : Rd w lo 1 A n (bs.map bv)) {k : Nat} (hk : k ≤ n) : Rd w lo 1 (A.map fun x => ⟨x.block, x.off + k, none⟩) (n - k) ((bs.drop k).map bv) := by
  refine ⟨by have := h.1; simp at this ⊢; omega, fun hn => ?_⟩
  obtain ⟨b, o, rfl, hb, hc⟩ := h.2 (by omega)
  exact ⟨b, o + k, rfl, hb, fun j hj => by rw [Nat.add_assoc, hc _ (by omega), List.map_drop, List.getElem?_drop]⟩
theorem Rd.takeB {bs : List UInt8} (h : Rd w lo 1 A n (bs.map bv)) {k : Nat} (hk : k ≤ n) : Rd w lo 1 A k ((bs.take k).map bv) := by
  have := h.take hk
  simpa using this

/-- '[]byte{..}' -/
theorem Rd.lit (w : World) (e : TypeId) (n : Nat) (xs : List Value) (hl : xs.length = n) : Rd (w.alloc (.cells xs.toArray e)) w.heap.size 1 (some ⟨w.heap.size, 0, none⟩) n xs := by
  refine ⟨by omega, fun _ => ⟨w.heap.size, 0, rfl, Nat.le_refl _, fun j _ => ?_⟩⟩
  rw [cell_of_row _ _ _ _ _ _ (heap_alloc_new w _)]
  simp

theorem Own.nil (w : World) (lo : Nat) (e : TypeId) (sz : Nat) (A : Option Addr) : Own w lo e sz A 0 0 [] := .inl ⟨rfl, rfl, rfl⟩
theorem Own.len (h : Own w lo e sz A n c xs) : xs.length = n * sz := by
  rcases h with ⟨rfl, rfl, rfl⟩ | ⟨g, cur, rfl, _, _, hnc, _, hs, rfl⟩
  · simp
  · rw [List.length_take, Array.length_toList, hs]
    have := Nat.mul_le_mul_right sz hnc
    omega
theorem Own.cap (h : Own w lo e sz A n c xs) : n ≤ c ∧ c ≤ maxLen := by
  rcases h with ⟨rfl, rfl, rfl⟩ | ⟨g, cur, rfl, _, _, hnc, hm, _⟩
  · exact ⟨Nat.le_refl _, Nat.zero_le _⟩
  · exact ⟨hnc, hm⟩
theorem Own.rd (h : Own w lo e sz A n c xs) : Rd w lo sz A n xs := by
  refine ⟨h.len, fun hn => ?_⟩
  rcases h with ⟨rfl, rfl, rfl⟩ | ⟨g, cur, rfl, hlo, hg, hnc, hm, hs, rfl⟩
  · simp at hn
  · refine ⟨g, 0, rfl, hlo, fun j hj => ?_⟩
    rw [Nat.zero_add, cell_of_row w g j cur e (0, 0) hg, List.getElem?_take, if_pos hj]
    simp
theorem Own.low (h : Own w lo e sz A n c xs) (hl : lo' ≤ lo) : Own w lo' e sz A n c xs := by
  rcases h with h | ⟨g, cur, rfl, hlo, r⟩
  · exact .inl h
  · exact .inr ⟨g, cur, rfl, by omega, r⟩
theorem lt_block {g : Nat} {o : Obj} (h : w.heap[g]? = some o) : g < w.heap.size := (Array.getElem?_eq_some_iff.1 h).1
theorem Own.keep (h : Own w lo e sz A n c xs) (hk : ∀ b, b < w.heap.size → rowOf A c = some b → w'.heap[b]? = w.heap[b]?) : Own w' lo e sz A n c xs := by
  rcases h with h | ⟨g, cur, rfl, hlo, hg, hnc, hm, hs, ht⟩
  · exact .inl h
  · by_cases h0 : c = 0
    · subst h0
      have hn : n = 0 := by omega
      subst hn
      exact .inl ⟨rfl, rfl, by rw [← ht]; simp⟩
    · exact .inr ⟨g, cur, rfl, hlo, by rw [hk g (lt_block hg) (by simp [rowOf, h0])]; exact hg, hnc, hm, hs, ht⟩
theorem Own.below (h : Own w lo e sz A n c xs) (hb : Below w.heap.size w w') : Own w' lo e sz A n c xs := h.keep fun b hlt _ => hb.block b hlt
theorem Own.drew (h : Own w lo e sz A n c xs) : Own w.drew lo e sz A n c xs := h
theorem Own.alloc (h : Own w lo e sz A n c xs) (o : Obj) : Own (w.alloc o) lo e sz A n c xs := h.keep fun b hb _ => Below.heap_alloc w o b hb
theorem Own.grown {row : Option Nat} (h : Own w lo e sz A n c xs) (hg : w.grownBy w' row) (hne : ∀ g, row = some g → rowOf A c ≠ some g) : Own w' lo e sz A n c xs :=
  h.keep fun b hb hr => hg.block b hb fun er => hne b er.symm hr
theorem Own.row_lt (h : Own w lo e sz A n c xs) : ∀ g, rowOf A c = some g → lo ≤ g ∧ g < w.heap.size := by
  intro g hg
  rcases h with ⟨rfl, rfl, rfl⟩ | ⟨g', cur, rfl, hlo, hh, _⟩
  · simp [rowOf] at hg
  · unfold rowOf at hg
    split at hg
    · simp at hg
    · simp at hg
      subst hg
      exact ⟨hlo, lt_block hh⟩
theorem Own.made (w : World) (cs : Array Value) (e : TypeId) (lo sz n : Nat) (hb : lo ≤ w.heap.size) (hm : n ≤ maxLen) (hs : cs.size = n * sz) : Own (w.alloc (.cells cs e)) lo e sz (some ⟨w.heap.size, 0, none⟩) n n cs.toList :=
  .inr ⟨w.heap.size, cs, rfl, hb, heap_alloc_new w _, Nat.le_refl _, hm, hs, List.take_of_length_le (by rw [Array.length_toList, hs]; exact Nat.le_refl _)⟩
theorem own_of_row {v : Value} (h : w.ownsRow lo e sz v n xs) : ∃ A c, v = .slice A n c ∧ Own w lo e sz A n c xs := by
  rcases h.2 with ⟨rfl, rfl⟩ | ⟨g, cap, cur, rfl, hb, hg, hnc, hm, hs, ht⟩
  · have : xs = [] := List.eq_nil_of_length_eq_zero (by simpa using h.1)
    exact ⟨_, _, rfl, .inl ⟨rfl, rfl, this⟩⟩
  · exact ⟨_, _, rfl, .inr ⟨g, cur, rfl, hb, hg, hnc, hm, hs, ht⟩⟩
end

section
variable {w w' : World} {lo lo' sz n c g : Nat} {e : TypeId} {xs : List Value}
theorem Own.at_ (h : Own w lo e sz (some ⟨g, 0, none⟩) n c xs) {k : Nat} (hk : k < n * sz) : ∃ u, xs[k]? = some u ∧ w.cell? ⟨g, k, none⟩ = some u ∧ w.frozen? ⟨g, k, none⟩ = false ∧ lo ≤ g ∧ g < w.heap.size := by
  have hl := h.len
  have hx : xs[k]? = some (xs[k]'(by omega)) := List.getElem?_eq_getElem (by omega)
  rcases h with ⟨rfl, rfl, rfl⟩ | ⟨g', cur, h, hlo, hg, hnc, hm, hs, rfl⟩
  · simp at hk
  · simp at h
    subst h
    refine ⟨_, hx, ?_, frozen_of_row w g k cur e hg, hlo, lt_block hg⟩
    rw [← hx, cell_of_row w g k cur e (0, 0) hg, List.getElem?_take, if_pos hk]
    simp
theorem Own.set (h : Own w lo e sz (some ⟨g, 0, none⟩) n c xs) (k : Nat) (u : Value) : Own (w.setCell ⟨g, k, none⟩ u) lo e sz (some ⟨g, 0, none⟩) n c (xs.set k u) := by
  rcases h with ⟨rfl, rfl, rfl⟩ | ⟨g', cur, h, hlo, hg, hnc, hm, hs, rfl⟩
  · exact .inl ⟨rfl, rfl, rfl⟩
  · simp at h
    subst h
    refine .inr ⟨g, cur.setIfInBounds k u, rfl, hlo, heap_setCell_same w g k cur e u hg, hnc, hm, by simpa using hs, ?_⟩
    rw [Array.toList_setIfInBounds, List.take_set]
theorem grown_set {row : Option Nat} (h : w.grownBy w' row) {k : Nat} (hg : row = some g ∨ w.heap.size ≤ g) (u : Value) : w.grownBy (w'.setCell ⟨g, k, none⟩ u) row :=
  ⟨h.os, h.tape, h.output, by simpa [World.setCell] using h.size, fun b hb hne => (Below.heap_setCell w' ⟨g, k, none⟩ u b (by
    intro (e : b = g)
    rcases hg with hg | hg
    · exact hne (by rw [e, hg])
    · omega)).trans (h.block b hb hne)⟩
theorem Own.grows {w0 : World} {D : Option Addr} {d : Nat} (ho : Own w lo e sz D n d xs) (hg : w.grownBy w' (rowOf D d)) (hb : Below lo w0 w) (hl : lo ≤ w.heap.size) : Below lo w0 w' := hb.grown hg hl fun k hk => (ho.row_lt k hk).1
theorem below_of_grown {row : Option Nat} (hg : w.grownBy w' row) {B : Nat} (hB : B ≤ w.heap.size) (hr : ∀ k, row = some k → B ≤ k) : Below B w w' := (Below.refl B w).grown hg hB hr
end

theorem or_byte (q x : Nat) (hx : x < 256) (h : 256 * q + x < 18446744073709551616) : bits .or .u64 ((q : Int) * 256) (x : Int) = ((256 * q + x : Nat) : Int) := by
  have e : (q : Int) * 256 = ((256 * q : Nat) : Int) := by omega
  rw [e, u64_or_nat _ _ (by omega) (by omega)]
  congr 1
  exact (Nat.two_pow_add_eq_or_of_lt (i := 8) hx q).symm

/-! ### append, whatever the source -/
section
variable {P : Program} (w : World)

theorem run_app (lo : Nat) (t ty e : TypeId) (i : TypeInfo) (z : Value) (sz bytes : Nat) (ht : P.underlying t = some (.slice e)) (hi : P.info? e = some i) (hz : i.zero = some z)
    (hsize : i.size = sz) (hby : i.bytes = bytes) (hzs : z.cells.size = sz) (hsz : 0 < sz)
    (D : Option Addr) (n c : Nat) (xs : List Value) (hown : Own w lo e sz D n c xs)
    (A : Option Addr) (m cc lo2 : Nat) (news : List Value) (hr : Rd w lo2 sz A m news) (h1 : ∀ u ∈ news, u.oneCell' = true)
    (h63 : n + m ≤ maxLen) (hbytes : (n + m) * bytes ≤ 140737488355328) (hlo : lo ≤ w.heap.size) :
    ∃ D' c' w', (Builtin.append_ #[t, t] ty #[.slice D n c, .slice A m cc]).run P w = .ok (.slice D' (n + m) c') w' ∧ Own w' lo e sz D' (n + m) c' (xs ++ news) ∧ w.grownBy w' (rowOf D c) ∧
      (rowOf D' c' = rowOf D c ∨ rowOf D' c' = none ∨ rowOf D' c' = some w.heap.size) := by
  rcases Nat.eq_zero_or_pos m with hm | hm
  · subst hm
    have hn : news = [] := List.eq_nil_of_length_eq_zero (by simpa using hr.1)
    subst hn
    have hnc := hown.cap.1
    refine ⟨D, c, w, ?_, by simpa using hown, World.grownBy.refl w _, .inl rfl⟩
    cases D <;> cases A <;> simp [Builtin.append_, run_underlying ht, sizeOf, typeInfo, hi, Builtin.lenOf, Builtin.firstCells, loadCells, loadCellsFrom, hnc, storeCells]
  · have hmz : 0 < m * sz := Nat.mul_pos hm hsz
    obtain ⟨b, o, rfl, _, _, hcell⟩ := hr.lt hmz
    have hl : news.length = m * sz := hr.1
    have hnews : ∀ j u, news[j]? = some u → w.cell? ((⟨b, o, none⟩ : Addr).add j) = some u := by
      intro j u hu
      have hj : j < m * sz := by
        have := (List.getElem?_eq_some_iff.1 hu).1
        omega
      rw [add_lit, hcell j hj, hu]
    by_cases h0 : c = 0
    · -- no capacity: a new row
      subst h0
      have hn0 : n = 0 := by have := hown.cap.1; omega
      subst hn0
      have hx : xs = [] := List.eq_nil_of_length_eq_zero (by simpa using hown.len)
      subst hx
      cases D with
      | none =>
        obtain ⟨v', w', hrun, h2, h3, _, h5⟩ := run_append_own_at (P := P) w lo t ty e i z sz bytes ht hi hz hsize hby hzs hsz (.slice none 0 0) 0 [] (World.ownsRow_nil w lo e sz) ⟨b, o, none⟩ m cc news hl hnews h1 h63 hbytes hlo
        obtain ⟨D', c', rfl, hO⟩ := own_of_row h2
        refine ⟨D', c', w', hrun, hO, by simpa [rowOf, Value.ownBlock] using h3, ?_⟩
        rcases h5 with h5 | h5
        · cases D' with
          | none => exact .inr (.inl (by unfold rowOf; split <;> rfl))
          | some d => simp [Value.ownBlock] at h5
        · cases D' with
          | none => simp [Value.ownBlock] at h5
          | some d =>
            simp [Value.ownBlock] at h5
            unfold rowOf
            split
            · exact .inr (.inl rfl)
            · exact .inr (.inr (by simp [h5]))
      | some d =>
        obtain ⟨v', w', hrun, h2, h3⟩ := run_append_arg_grows (P := P) w t ty e i z sz bytes ht hi hz hsize hby hzs hsz d 0 0 [] (by simp) (fun j u hu => by simp at hu) ⟨b, o, none⟩ m cc news hl hnews (by omega) h63 hbytes
        have hlt := h2.lt
        have h2' : w'.ownsRow w.heap.size e sz v' (0 + m) ([] ++ news) := h2
        obtain ⟨D', c', rfl, hO⟩ := own_of_row h2
        refine ⟨D', c', w', hrun, hO.low hlo, by simpa [rowOf] using h3, ?_⟩
        -- the new row is the block that was made
        have hsz' : w'.heap.size ≤ w.heap.size + 1 ∨ True := .inr trivial
        rcases hO with ⟨h, _, _⟩ | ⟨g, cur, rfl, hg, hh, hnc, _⟩
        · omega
        · refine .inr ?_
          by_cases hc' : c' = 0
          · exact .inl (by simp [rowOf, hc'])
          · right
            have hr2 := run_append_grow (P := P) w t ty e i z ht hi hz d 0 0 [] (by simp) (fun j u hu => by simp at hu) ⟨b, o, none⟩ m cc news (by rw [hsize]; exact hl) hnews (by omega) (by simp only [maxLen] at h63; omega) (growslice_fits (by omega) (by rw [hby]; exact hbytes))
            rw [hrun] at hr2
            simp only [Result.ok.injEq, Value.slice.injEq] at hr2
            simp [rowOf, hc']
            have := hr2.1.1
            simp at this
            exact this
    · rcases hown with ⟨_, rfl, _⟩ | ⟨g, cur, rfl, hlg, hg, hnc, hcm, hs, ht'⟩
      · exact absurd rfl h0
      · have hO : w.ownsRow lo e sz (.slice (some ⟨g, 0, none⟩) n c) n xs := ⟨by
          rw [← ht', List.length_take, Array.length_toList, hs]
          have := Nat.mul_le_mul_right sz hnc
          omega, .inr ⟨g, c, cur, rfl, hlg, hg, hnc, hcm, hs, ht'⟩⟩
        obtain ⟨v', w', hrun, h2, h3, _, h5⟩ := run_append_own_at (P := P) w lo t ty e i z sz bytes ht hi hz hsize hby hzs hsz _ n xs hO ⟨b, o, none⟩ m cc news hl hnews h1 h63 hbytes hlo
        obtain ⟨D', c', rfl, hO'⟩ := own_of_row h2
        refine ⟨D', c', w', hrun, hO', by simpa [rowOf, h0, Value.ownBlock] using h3, ?_⟩
        cases D' with
        | none => exact .inr (.inl (by unfold rowOf; split <;> rfl))
        | some d =>
          simp [Value.ownBlock] at h5
          unfold rowOf
          split
          · exact .inr (.inl rfl)
          · rcases h5 with h5 | h5
            · exact .inl (by simp [h5])
            · exact .inr (.inr (by simp [h5]))

theorem wpList_app {ops : Array Oper} {rest : List Oper} {o : Oper} {a : Act} {Q : Exit → Act → World → Prop} (hgd : o.guard = none) (s x : Operand) (t : TypeId)
    (ho : o.op = .call { callee := .builtin .append, args := #[s, x], argTypes := #[t, t] })
    (lo : Nat) (e : TypeId) (i : TypeInfo) (z : Value) (sz bytes : Nat) (ht : P.underlying t = some (.slice e)) (hi : P.info? e = some i) (hz : i.zero = some z)
    (hsize : i.size = sz) (hby : i.bytes = bytes) (hzs : z.cells.size = sz) (hsz : 0 < sz)
    (D : Option Addr) (n c : Nat) (xs : List Value) (hs : a.eval s = .slice D n c) (hown : Own w lo e sz D n c xs)
    (A : Option Addr) (m cc lo2 : Nat) (news : List Value) (hx : a.eval x = .slice A m cc) (hr : Rd w lo2 sz A m news) (h1 : ∀ u ∈ news, u.oneCell' = true)
    (h63 : n + m ≤ maxLen) (hbytes : (n + m) * bytes ≤ 140737488355328) (hlo : lo ≤ w.heap.size)
    (h : ∀ D' c' w', Own w' lo e sz D' (n + m) c' (xs ++ news) → w.grownBy w' (rowOf D c) → (rowOf D' c' = rowOf D c ∨ rowOf D' c' = none ∨ rowOf D' c' = some w.heap.size) → wpList P ops Q rest (a.put o.dst (.slice D' (n + m) c')) w') :
    wpList P ops Q (o :: rest) a w := by
  obtain ⟨D', c', w', hrun, h2, h3, h4⟩ := run_app (P := P) w lo t o.type e i z sz bytes ht hi hz hsize hby hzs hsz D n c xs hown A m cc lo2 news hr h1 h63 hbytes hlo
  refine wpList_plain hgd fun K hK => ?_
  unfold Oper.wp execOp
  simp only [ho, resolve, invoke, builtin, Sem.run_bind, Sem.run_pure, Result.andThen_ok, List.map_toArray, List.map_cons, List.map_nil, hs, hx, hrun]
  exact hK _ _ (h D' c' w' h2 h3 h4)

/-- 'make([]T, n)'. -/
theorem wpList_mk {ops : Array Oper} {rest : List Oper} {o : Oper} {a : Act} {Q : Exit → Act → World → Prop} (hgd : o.guard = none) (l c : Operand) (t : TypeId) (ho : o.op = Op.makeSlice t l c)
    (lo : Nat) (e : TypeId) (i : TypeInfo) (z : Value) (sz bytes : Nat) (ht : P.underlying t = some (.slice e)) (hi : P.info? e = some i) (hz : i.zero = some z) (hsize : i.size = sz) (hby : i.bytes = bytes)
    (kl kc : IntKind) (L C : Int) (n : Nat) (hl : a.eval l = .int kl L) (hc : a.eval c = .int kc C) (hL : L = (n : Int)) (hC : C = (n : Int)) (hbytes : bytes * n ≤ 281474976710656) (h63 : n ≤ maxLen) (hlo : lo ≤ w.heap.size)
    (h : ∀ w', Own w' lo e sz (some ⟨w.heap.size, 0, none⟩) n n (madeCells z.cells (n * sz)).toList → w.grownBy w' none → wpList P ops Q rest (a.put o.dst (.slice (some ⟨w.heap.size, 0, none⟩) n n)) w') :
    wpList P ops Q (o :: rest) a w := by
  subst hby
  refine wpList_make_full w hgd l c t ho lo e i z sz ht hi hz hsize kl kc L C n hl hc hL hC hbytes h63 hlo fun w' h1 h2 => ?_
  obtain ⟨A, c, hv, hO⟩ := own_of_row h1
  simp at hv
  obtain ⟨rfl, rfl⟩ := hv
  exact h w' hO h2

/-- 'string(b)' of bytes. -/
theorem run_bytes_string (src e dst : TypeId) (hs : P.underlying src = some (.slice e)) (he : P.underlying e = some (.int .u8)) (hd : P.underlying dst = some .string)
    (A : Option Addr) (n c lo : Nat) (bs : List UInt8) (hr : Rd w lo 1 A n (bs.map bv)) : (convert src dst (.slice A n c)).run P w = .ok (.string ⟨bs.toArray⟩) w := by
  have hl : bs.length = n := by simpa using hr.1
  rcases Nat.eq_zero_or_pos n with hn | hn
  · subst hn
    obtain rfl : bs = [] := List.eq_nil_of_length_eq_zero hl
    cases A with
    | none => exact run_convert_bytes_nil w src e hs he 0 c dst hd
    | some a =>
      rw [run_convert_bytes_string w src dst e _ 0 c hs he hd, run_bytesToString w a 0 c [] (by simp [loadCells, loadCellsFrom])]
      rfl
  · obtain ⟨b, o, rfl, _, hc⟩ := hr.2 (by omega)
    have := run_convert_bytes_arg (P := P) w src e hs he b o n c (bs.map fun x => (x.toNat : Int)) (by simpa using hl) (fun j hj => by
      rw [hc j (by omega)]
      have hjl : j < bs.length := by omega
      simp [bv, List.getElem?_eq_getElem hjl]) dst hd
    rw [this]
    congr 3
    simp only [strOfNums, List.map_map]
    have h : List.map ((fun n : Int => UInt8.ofNat n.toNat) ∘ fun x : UInt8 => (x.toNat : Int)) bs = List.map id bs := List.map_congr_left fun x _ => by simp
    rw [h, List.map_id]
end

end Go.Proofs.YtheljogmnalbmaaDoor
