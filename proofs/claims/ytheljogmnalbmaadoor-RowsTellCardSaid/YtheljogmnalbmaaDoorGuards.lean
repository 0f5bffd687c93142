/-
  Guards for the walk's arms; values built, slices laid, rows read, at plain and at guarded operations. Over any program; no condition beyond those each theorem names.
-/
import Derived.Test.YtheljogmnalbmaaDoorArr
import Derived.Test.YtheljogmnalbmaaDoorChg
import Derived.Deep.Cut
import Derived.Great.BuildSlice
namespace Go.Proofs.YtheljogmnalbmaaDoor
open Go.RowKit

section
variable {P : Program} {ops : Array Oper} {Q : Exit → Act → World → Prop} {rest : List Oper} {a : Act} {w : World} {o : Oper}
/-- Guards for the walk's arms: the operation at hand, by its form alone (used under with_reducible). -/
theorem at_load {d : Option Tmp} {x : Operand} {ty : TypeId} {pos : String} {af : Array Edge} {g : Option (Nat × Bool)} (t : TypeId) (h : wpList P ops Q ({ dst := d, op := .load t x, type := ty, pos := pos, after := af, guard := g } :: rest) a w) : wpList P ops Q ({ dst := d, op := .load t x, type := ty, pos := pos, after := af, guard := g } :: rest) a w := h
theorem at_store {d : Option Tmp} {x y : Operand} {ty : TypeId} {pos : String} {af : Array Edge} {g : Option (Nat × Bool)} (t : TypeId) (h : wpList P ops Q ({ dst := d, op := .store t x y, type := ty, pos := pos, after := af, guard := g } :: rest) a w) : wpList P ops Q ({ dst := d, op := .store t x y, type := ty, pos := pos, after := af, guard := g } :: rest) a w := h
theorem at_alloc {d : Option Tmp} {ty : TypeId} {pos : String} {af : Array Edge} {g : Option (Nat × Bool)} (t : TypeId) (h : wpList P ops Q ({ dst := d, op := .alloc t, type := ty, pos := pos, after := af, guard := g } :: rest) a w) : wpList P ops Q ({ dst := d, op := .alloc t, type := ty, pos := pos, after := af, guard := g } :: rest) a w := h
end
section
variable {P : Program}
/-- A whole array read, at a guarded operation. -/
theorem wpList_ldr_g {ops : Array Oper} {rest : List Oper} {o : Oper} {a : Act} {w : World} {Q : Exit → Act → World → Prop} (hgd : Region.wanted o (yielded ops a.tmps) = true) (ty : TypeId) (x : Operand) (ho : o.op = .load ty x)
    (g : Nat) (hx : a.eval x = .pointer (some ⟨g, 0, none⟩)) (t : TypeId) (cs : Array Value) (d : TypeDesc) (hg : Blk w g t cs)
    (hu : P.underlying ty = some d) (hd : (match d with | .struct _ | .array _ _ => true | _ => false) = true) (hi : (P.info? ty).map (·.size) = some cs.size)
    (h : wpList P ops Q rest (a.put o.dst (.agg cs)) w) : wpList P ops Q (o :: rest) a w := by
  refine wpList_step fun K hK => ?_
  rw [if_pos hgd]
  exact wp_load_row ty x ho g hx t cs (0, 0) d hg hu hd hi (hK _ _ h)
end
section
variable {P : Program}
/-- A value built of nothing. -/
theorem wpList_bd {ops : Array Oper} {rest : List Oper} {o : Oper} {a : Act} {w : World} {Q : Exit → Act → World → Prop} (hg : o.guard = none) (t : TypeId) (ho : o.op = .build t #[]) (cells : Array Value) (hx : (Instr.build t #[]).run P w = .ok (.agg cells) w)
    (h : wpList P ops Q rest (a.put o.dst (.agg cells)) w) : wpList P ops Q (o :: rest) a w := by
  refine wpList_plain hg fun K hK => ?_
  unfold Oper.wp execOp
  simp only [ho, List.map_toArray, List.map_nil, Sem.run_bind, Sem.run_pure, Result.andThen_ok, hx]
  exact hK _ _ h
end
section
variable {P : Program}
theorem at_build {ops : Array Oper} {Q : Exit → Act → World → Prop} {rest : List Oper} {a : Act} {w : World} {d : Option Tmp} {ps : Array (Nat × Operand)} {ty : TypeId} {pos : String} {af : Array Edge} {g : Option (Nat × Bool)} (t : TypeId) (h : wpList P ops Q ({ dst := d, op := .build t ps, type := ty, pos := pos, after := af, guard := g } :: rest) a w) : wpList P ops Q ({ dst := d, op := .build t ps, type := ty, pos := pos, after := af, guard := g } :: rest) a w := h
theorem at_bslice {ops : Array Oper} {Q : Exit → Act → World → Prop} {rest : List Oper} {a : Act} {w : World} {d : Option Tmp} {n : Nat} {ps : Array (Nat × Operand)} {ty : TypeId} {pos : String} {af : Array Edge} {g : Option (Nat × Bool)} (t : TypeId) (h : wpList P ops Q ({ dst := d, op := .buildSlice t n ps, type := ty, pos := pos, after := af, guard := g } :: rest) a w) : wpList P ops Q ({ dst := d, op := .buildSlice t n ps, type := ty, pos := pos, after := af, guard := g } :: rest) a w := h
/-- A value built of one part. -/
theorem wpList_b1 {ops : Array Oper} {rest : List Oper} {o : Oper} {a : Act} {w : World} {Q : Exit → Act → World → Prop} (hg : o.guard = none) (t : TypeId) (i : Nat) (y : Operand) (ho : o.op = .build t #[(i, y)]) (v : Value) (hy : a.eval y = v) (cells : Array Value) (hx : (Instr.build t #[(i, v)]).run P w = .ok (.agg cells) w)
    (h : wpList P ops Q rest (a.put o.dst (.agg cells)) w) : wpList P ops Q (o :: rest) a w := by
  subst hy
  refine wpList_plain hg fun K hK => ?_
  unfold Oper.wp execOp
  simp only [ho, List.map_toArray, List.map_cons, List.map_nil, Sem.run_bind, Sem.run_pure, Result.andThen_ok, hx]
  exact hK _ _ h
/-- A slice literal. -/
theorem wpList_bsl {ops : Array Oper} {rest : List Oper} {o : Oper} {a : Act} {w : World} {Q : Exit → Act → World → Prop} (hg : o.guard = none) (t e : TypeId) (len : Nat) (ps : Array (Nat × Operand)) (ho : o.op = .buildSlice t len ps) (vs : Array (Nat × Value)) (hv : (ps.map fun (i, x) => (i, a.eval x)) = vs) (cells : Array Value)
    (hx : (Instr.buildSlice t len vs).run P w = .ok (.slice (some ⟨w.heap.size, 0, none⟩) len len) (w.alloc (.cells cells e)))
    (h : ∀ w', Blk w' w.heap.size e cells → Below w.heap.size w w' → w'.heap.size = w.heap.size + 1 → wpList P ops Q rest (a.put o.dst (.slice (some ⟨w.heap.size, 0, none⟩) len len)) w') : wpList P ops Q (o :: rest) a w := by
  subst hv
  refine wpList_plain hg fun K hK => ?_
  unfold Oper.wp execOp
  simp only [ho, Sem.run_bind, hx, Result.andThen_ok]
  exact hK _ _ (h _ (Blk.new w e cells) (below_alloc1 w _) (by simp))
theorem wpList_bsl1 {ops : Array Oper} {rest : List Oper} {o : Oper} {a : Act} {w : World} {Q : Exit → Act → World → Prop} (hg : o.guard = none) (t e : TypeId) (len i : Nat) (y : Operand) (ho : o.op = .buildSlice t len #[(i, y)]) (v : Value) (hv : a.eval y = v) (cells : Array Value)
    (hx : (Instr.buildSlice t len #[(i, v)]).run P w = .ok (.slice (some ⟨w.heap.size, 0, none⟩) len len) (w.alloc (.cells cells e)))
    (h : ∀ w', Blk w' w.heap.size e cells → Below w.heap.size w w' → w'.heap.size = w.heap.size + 1 → wpList P ops Q rest (a.put o.dst (.slice (some ⟨w.heap.size, 0, none⟩) len len)) w') : wpList P ops Q (o :: rest) a w :=
  wpList_bsl hg t e len _ ho _ (by simp only [List.map_toArray, List.map_cons, List.map_nil, hv]) cells hx h
theorem wpList_bsl2 {ops : Array Oper} {rest : List Oper} {o : Oper} {a : Act} {w : World} {Q : Exit → Act → World → Prop} (hg : o.guard = none) (t e : TypeId) (len i j : Nat) (y z : Operand) (ho : o.op = .buildSlice t len #[(i, y), (j, z)]) (u v : Value) (hu : a.eval y = u) (hv : a.eval z = v) (cells : Array Value)
    (hx : (Instr.buildSlice t len #[(i, u), (j, v)]).run P w = .ok (.slice (some ⟨w.heap.size, 0, none⟩) len len) (w.alloc (.cells cells e)))
    (h : ∀ w', Blk w' w.heap.size e cells → Below w.heap.size w w' → w'.heap.size = w.heap.size + 1 → wpList P ops Q rest (a.put o.dst (.slice (some ⟨w.heap.size, 0, none⟩) len len)) w') : wpList P ops Q (o :: rest) a w :=
  wpList_bsl hg t e len _ ho _ (by simp only [List.map_toArray, List.map_cons, List.map_nil, hu, hv]) cells hx h
end
section
variable {P : Program}
/-- A value built of two. -/
theorem wpList_b2 {ops : Array Oper} {rest : List Oper} {o : Oper} {a : Act} {w : World} {Q : Exit → Act → World → Prop} (hg : o.guard = none) (t : TypeId) (i j : Nat) (y z : Operand) (ho : o.op = .build t #[(i, y), (j, z)]) (u v : Value) (hu : a.eval y = u) (hv : a.eval z = v) (cells : Array Value)
    (hx : (Instr.build t #[(i, u), (j, v)]).run P w = .ok (.agg cells) w)
    (h : wpList P ops Q rest (a.put o.dst (.agg cells)) w) : wpList P ops Q (o :: rest) a w := by
  subst hu hv
  refine wpList_plain hg fun K hK => ?_
  unfold Oper.wp execOp
  simp only [ho, List.map_toArray, List.map_cons, List.map_nil, Sem.run_bind, Sem.run_pure, Result.andThen_ok, hx]
  exact hK _ _ h
end
section
variable {P : Program}
theorem wpList_bd_g {ops : Array Oper} {rest : List Oper} {o : Oper} {a : Act} {w : World} {Q : Exit → Act → World → Prop} (hgd : Region.wanted o (yielded ops a.tmps) = true) (t : TypeId) (ho : o.op = .build t #[]) (cells : Array Value) (hx : (Instr.build t #[]).run P w = .ok (.agg cells) w)
    (h : wpList P ops Q rest (a.put o.dst (.agg cells)) w) : wpList P ops Q (o :: rest) a w := by
  refine wpList_step fun K hK => ?_
  rw [if_pos hgd]
  unfold Oper.wp execOp
  simp only [ho, List.map_toArray, List.map_nil, Sem.run_bind, Sem.run_pure, Result.andThen_ok, hx]
  exact hK _ _ h
end
end Go.Proofs.YtheljogmnalbmaaDoor
