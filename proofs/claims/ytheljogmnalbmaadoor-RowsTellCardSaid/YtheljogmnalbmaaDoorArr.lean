/-
  Blocks that are known whole, and laws that leave the world a letter: a new variable, a box, a whole array read or written. Over any program; no condition beyond those each theorem names.
-/
import Derived.Test.YtheljogmnalbmaaDoorKit
import Derived.Deep.MidRow
import Derived.Great.Walk
namespace Go.Proofs.YtheljogmnalbmaaDoor
open Go.RowKit

/-- Block g is just the cells cs of element type t, none frozen. -/
def Blk (w : World) (g : Nat) (t : TypeId) (cs : Array Value) : Prop := w.heap[g]? = some (.cells cs t (0, 0))
section
variable {w w' : World} {g : Nat} {t : TypeId} {cs : Array Value}
theorem Blk.lt (h : Blk w g t cs) : g < w.heap.size := lt_block h
theorem Blk.cell (h : Blk w g t cs) (i : Nat) : w.cell? ⟨g, i, none⟩ = cs[i]? := cell_of_row w g i cs t (0, 0) h
theorem Blk.cellv {v : Value} (h : Blk w g t cs) {i : Nat} (hi : cs[i]? = some v) : w.cell? ⟨g, i, none⟩ = some v := (h.cell i).trans hi
theorem Blk.frozen (h : Blk w g t cs) (i : Nat) : w.frozen? ⟨g, i, none⟩ = false := frozen_of_row w g i cs t h
theorem Blk.new (w : World) (t : TypeId) (cs : Array Value) : Blk (w.alloc (.cells cs t)) w.heap.size t cs := heap_alloc_new w _
theorem Blk.drew (h : Blk w g t cs) : Blk w.drew g t cs := h
theorem Blk.drewN (h : Blk w g t cs) (n : Nat) : Blk (w.drewN n) g t cs := h
theorem Blk.alloc (h : Blk w g t cs) (o : Obj) : Blk (w.alloc o) g t cs := (Below.heap_alloc w o g h.lt).trans h
theorem Blk.set_ (h : Blk w g t cs) (i : Nat) (u : Value) : Blk (w.setCell ⟨g, i, none⟩ u) g t (cs.setIfInBounds i u) := heap_setCell_same w g i cs t u h
theorem Blk.far (h : Blk w g t cs) {b i : Nat} (hp : g ≠ b) (u : Value) : Blk (w.setCell ⟨b, i, none⟩ u) g t cs := (Below.heap_setCell w ⟨b, i, none⟩ u g hp).trans h
theorem Blk.below {B : Nat} (h : Blk w g t cs) (hb : Below B w w') (hg : g < B) : Blk w' g t cs := (hb.block g hg).trans h
theorem Blk.belowS (h : Blk w g t cs) (hb : Below w.heap.size w w') : Blk w' g t cs := h.below hb h.lt
theorem Blk.grown {row : Option Nat} (h : Blk w g t cs) (hb : w.grownBy w' row) (hg : some g ≠ row) : Blk w' g t cs := (hb.block g h.lt hg).trans h
theorem setCells_block (b : Nat) (t : TypeId) (fr : Nat × Nat) (vs : List Value) : ∀ (o : Nat) (w : World) (cs : Array Value), w.heap[b]? = some (.cells cs t fr) → ∃ cs', (w.setCells b o vs).heap[b]? = some (.cells cs' t fr) ∧ cs'.size = cs.size := by
  induction vs with
  | nil => intro o w cs h; exact ⟨cs, h, rfl⟩
  | cons v vs ih =>
    intro o w cs h
    have h1 : (w.setCell ⟨b, o, none⟩ v).heap[b]? = some (.cells (cs.setIfInBounds o v) t fr) := by simp [World.setCell, Array.getElem?_modify, h]
    obtain ⟨cs', h2, h3⟩ := ih (o + 1) _ _ h1
    exact ⟨cs', h2, by rw [h3]; simp⟩
theorem setCells_other (b : Nat) (vs : List Value) : ∀ (o : Nat) (w : World) (k : Nat), k ≠ b → (w.setCells b o vs).heap[k]? = w.heap[k]? := by
  induction vs with
  | nil => intro o w k _; rfl
  | cons v vs ih =>
    intro o w k hk
    exact (ih (o + 1) (w.setCell ⟨b, o, none⟩ v) k hk).trans (Below.heap_setCell w ⟨b, o, none⟩ v k hk)
theorem setCells_rest (b : Nat) (vs : List Value) : ∀ (o : Nat) (w : World), (w.setCells b o vs).os = w.os ∧ (w.setCells b o vs).tape = w.tape ∧ (w.setCells b o vs).output = w.output ∧ (w.setCells b o vs).heap.size = w.heap.size := by
  induction vs with
  | nil => intro o w; exact ⟨rfl, rfl, rfl, rfl⟩
  | cons v vs ih =>
    intro o w
    obtain ⟨h1, h2, h3, h4⟩ := ih (o + 1) (w.setCell ⟨b, o, none⟩ v)
    exact ⟨h1, h2, h3, h4.trans (by simp [World.setCell])⟩
/-- A whole block written over. -/
theorem Blk.over (h : Blk w g t cs) (vs : Array Value) (hs : vs.size = cs.size) : Blk (w.setCells g 0 vs.toList) g t vs ∧ w.grownBy (w.setCells g 0 vs.toList) (some g) ∧ (w.setCells g 0 vs.toList).heap.size = w.heap.size := by
  obtain ⟨cs', h1, h2⟩ := setCells_block g t (0, 0) vs.toList 0 w cs h
  obtain ⟨r1, r2, r3, r4⟩ := setCells_rest g vs.toList 0 w
  refine ⟨?_, ⟨r1, r2, r3, by omega, fun k _ hk => setCells_other g vs.toList 0 w k (fun e => hk (by rw [e]))⟩, r4⟩
  have : cs' = vs := by
    apply Array.ext (by omega)
    intro i hi1 hi2
    have hc := World.cell?_setCells_in g vs.toList 0 w (fun j hj => by
      rw [Nat.zero_add, h.cell j, Array.getElem?_eq_getElem (by simp at hj; omega)]
      rfl) i (by simpa using hi2)
    rw [Nat.zero_add, cell_of_row _ g i cs' t (0, 0) h1, Array.getElem?_eq_getElem hi1] at hc
    simpa using hc
  subst this
  exact h1
end

section
variable {P : Program}
theorem below_alloc1 (w : World) (o : Obj) : Below w.heap.size w (w.alloc o) := (Below.refl w.heap.size w).alloc (Nat.le_refl _) o

/-- 'box': a parameter's own variable. -/
theorem wpList_bx {ops : Array Oper} {rest : List Oper} {o : Oper} {a : Act} {w : World} {Q : Exit → Act → World → Prop} (hg : o.guard = none) (t : TypeId) (x : Operand) (ho : o.op = .box t x) (cells : Array Value) (hx : (a.eval x).cells = cells)
    (h : ∀ w', Blk w' w.heap.size t cells → Below w.heap.size w w' → w'.heap.size = w.heap.size + 1 → wpList P ops Q rest (a.put o.dst (.pointer (some ⟨w.heap.size, 0, none⟩))) w') : wpList P ops Q (o :: rest) a w :=
  Great.wpList_boxTo hg t x ho o.dst rfl w.heap.size rfl cells hx (h _ (Blk.new w t cells) (below_alloc1 w _) (by simp))

/-- 'alloc': a variable of its zero value. -/
theorem wpList_al {ops : Array Oper} {rest : List Oper} {o : Oper} {a : Act} {w : World} {Q : Exit → Act → World → Prop} (hg : o.guard = none) (t : TypeId) (ho : o.op = .alloc t) (cells : Array Value)
    (hx : (zeroValue t).run P w = .ok (.agg cells) w)
    (h : ∀ w', Blk w' w.heap.size t cells → Below w.heap.size w w' → w'.heap.size = w.heap.size + 1 → wpList P ops Q rest (a.put o.dst (.pointer (some ⟨w.heap.size, 0, none⟩))) w') : wpList P ops Q (o :: rest) a w := by
  refine wpList_plain hg fun K hK => ?_
  unfold Oper.wp execOp
  simp only [ho, Sem.run_bind, Instr.alloc, hx, newVar, newRow, run_newObj_alloc, Sem.run_pure, Result.andThen_ok, Value.cells]
  exact hK _ _ (h _ (Blk.new w t cells) (below_alloc1 w _) (by simp))

/-- A whole array read. -/
theorem wpList_ldr {ops : Array Oper} {rest : List Oper} {o : Oper} {a : Act} {w : World} {Q : Exit → Act → World → Prop} (hgd : o.guard = none) (ty : TypeId) (x : Operand) (ho : o.op = .load ty x)
    (g : Nat) (hx : a.eval x = .pointer (some ⟨g, 0, none⟩)) (t : TypeId) (cs : Array Value) (d : TypeDesc) (hg : Blk w g t cs)
    (hu : P.underlying ty = some d) (hd : (match d with | .struct _ | .array _ _ => true | _ => false) = true) (hi : (P.info? ty).map (·.size) = some cs.size)
    (h : wpList P ops Q rest (a.put o.dst (.agg cs)) w) : wpList P ops Q (o :: rest) a w :=
  wpList_load_row hgd ty x ho g hx t cs (0, 0) d hg hu hd hi h

/-- A whole array written. -/
theorem wpList_str {ops : Array Oper} {rest : List Oper} {o : Oper} {a : Act} {w : World} {Q : Exit → Act → World → Prop} (hgd : o.guard = none) (ty : TypeId) (x y : Operand) (ho : o.op = .store ty x y)
    (g : Nat) (vs : Array Value) (hx : a.eval x = .pointer (some ⟨g, 0, none⟩)) (hy : a.eval y = .agg vs) (t : TypeId) (cs : Array Value) (hg : Blk w g t cs) (hs : vs.size = cs.size)
    (hi : (P.info? ty).map (·.size) = some cs.size) (h1 : ∀ v ∈ vs, v.oneCell' = true)
    (h : ∀ w', Blk w' g t vs → w.grownBy w' (some g) → w'.heap.size = w.heap.size → wpList P ops Q rest (a.put o.dst undef) w') : wpList P ops Q (o :: rest) a w := by
  obtain ⟨h2, h3, h4⟩ := hg.over vs hs
  refine wpList_store_mid hgd ty x y ho g 0 vs hx hy (fun j hj => ?_) (by rw [hs]; exact hi) (Array.all_eq_true_iff_forall_mem.2 h1) (h _ h2 h3 h4)
  refine ⟨?_, hg.frozen _⟩
  rw [Nat.zero_add, hg.cell j, Array.getElem?_eq_getElem (by omega)]
  rfl
end
end Go.Proofs.YtheljogmnalbmaaDoor
