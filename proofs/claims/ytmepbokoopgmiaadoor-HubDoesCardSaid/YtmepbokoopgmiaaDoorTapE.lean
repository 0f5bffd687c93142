/-
  Contracts of tap's Poll (whole) and Push. No condition beyond those each theorem names.
-/
import Derived.Test.YtmepbokoopgmiaaDoorTapD
import Derived.Great.BuildSlice
namespace Go.Proofs.YtmepbokoopgmiaaDoor
open Go.RowKit
set_option linter.unusedSimpArgs false
set_option linter.unusedVariables false

theorem poll_any (A : Option Addr) (n c : Nat) (lost : Bool) (xs : List It) (ho : ItsOk xs) (w : World) (hr : Rd w 0 101 A n (itsL xs)) (hn : n ≤ 1000) (hG : GOk w) :
    Calls Tryd.prog 30 #[.agg #[.slice A n c, .bool lost]] w (GivesP w (pollT xs lost)) := by
  unfold pollT
  cases hm : itsMay xs with
  | false => exact poll_bad A n c lost xs ho w hr hG hm
  | true =>
    cases xs with
    | cons x l => exact poll_cons A n c lost x l ho w hr hn hG hm
    | nil =>
      obtain rfl : 0 = n := rd_len ho hr
      cases lost
      · exact poll_none A c w hG
      · exact poll_lost A c w hG

section
variable {P : Program}
theorem at_build {ops : Array Oper} {Q : Exit → Act → World → Prop} {rest : List Oper} {a : Act} {w : World} {d : Option Tmp} {ps : Array (Nat × Operand)} {ty : TypeId} {pos : String} {af : Array Edge} {g : Option (Nat × Bool)} (t : TypeId) (h : wpList P ops Q ({ dst := d, op := .build t ps, type := ty, pos := pos, after := af, guard := g } :: rest) a w) : wpList P ops Q ({ dst := d, op := .build t ps, type := ty, pos := pos, after := af, guard := g } :: rest) a w := h
theorem at_bslice {ops : Array Oper} {Q : Exit → Act → World → Prop} {rest : List Oper} {a : Act} {w : World} {d : Option Tmp} {n : Nat} {ps : Array (Nat × Operand)} {ty : TypeId} {pos : String} {af : Array Edge} {g : Option (Nat × Bool)} (t : TypeId) (h : wpList P ops Q ({ dst := d, op := .buildSlice t n ps, type := ty, pos := pos, after := af, guard := g } :: rest) a w) : wpList P ops Q ({ dst := d, op := .buildSlice t n ps, type := ty, pos := pos, after := af, guard := g } :: rest) a w := h
/-- A value built of one part. -/
theorem wpList_b1 {ops : Array Oper} {rest : List Oper} {o : Oper} {a : Act} {w : World} {Q : Exit → Act → World → Prop} (hg : o.guard = none) (t : TypeId) (i : Nat) (y : Operand) (ho : o.op = .build t #[(i, y)]) (v : Value) (hy : a.eval y = v) (cells : Array Value) (hx : (Instr.build t #[(i, v)]).run P w = .ok (.agg cells) w)
    (h : wpList P ops Q rest (a.put o.dst (.agg cells)) w) : wpList P ops Q (o :: rest) a w := by
  subst hy
  refine wpList_plain hg fun K hK => ?_
  unfold Oper.wp execOp
  simp only [ho, List.map_toArray, List.map_cons, List.map_nil, Sem.run_bind, Sem.run_pure, Result.andThen_ok, hx]
  exact hK _ _ h
/-- A slice literal. -/
theorem wpList_bsl {ops : Array Oper} {rest : List Oper} {o : Oper} {a : Act} {w : World} {Q : Exit → Act → World → Prop} (hg : o.guard = none) (t e : TypeId) (len : Nat) (ps : Array (Nat × Operand)) (ho : o.op = .buildSlice t len ps) (vs : Array (Nat × Value)) (hv : (ps.map fun (i, x) => (i, a.eval x)) = vs) (cells : Array Value)
    (hx : (Instr.buildSlice t len vs).run P w = .ok (.slice (some ⟨w.heap.size, 0, none⟩) len len) (w.alloc (.cells cells e)))
    (h : ∀ w', Blk w' w.heap.size e cells → Below w.heap.size w w' → w'.heap.size = w.heap.size + 1 → wpList P ops Q rest (a.put o.dst (.slice (some ⟨w.heap.size, 0, none⟩) len len)) w') : wpList P ops Q (o :: rest) a w := by
  subst hv
  refine wpList_plain hg fun K hK => ?_
  unfold Oper.wp execOp
  simp only [ho, Sem.run_bind, hx, Result.andThen_ok]
  exact hK _ _ (h _ (Blk.new w e cells) (below_alloc1 w _) (by simp))
theorem wpList_bsl1 {ops : Array Oper} {rest : List Oper} {o : Oper} {a : Act} {w : World} {Q : Exit → Act → World → Prop} (hg : o.guard = none) (t e : TypeId) (len i : Nat) (y : Operand) (ho : o.op = .buildSlice t len #[(i, y)]) (v : Value) (hv : a.eval y = v) (cells : Array Value)
    (hx : (Instr.buildSlice t len #[(i, v)]).run P w = .ok (.slice (some ⟨w.heap.size, 0, none⟩) len len) (w.alloc (.cells cells e)))
    (h : ∀ w', Blk w' w.heap.size e cells → Below w.heap.size w w' → w'.heap.size = w.heap.size + 1 → wpList P ops Q rest (a.put o.dst (.slice (some ⟨w.heap.size, 0, none⟩) len len)) w') : wpList P ops Q (o :: rest) a w :=
  wpList_bsl hg t e len _ ho _ (by simp only [List.map_toArray, List.map_cons, List.map_nil, hv]) cells hx h
theorem wpList_bsl2 {ops : Array Oper} {rest : List Oper} {o : Oper} {a : Act} {w : World} {Q : Exit → Act → World → Prop} (hg : o.guard = none) (t e : TypeId) (len i j : Nat) (y z : Operand) (ho : o.op = .buildSlice t len #[(i, y), (j, z)]) (u v : Value) (hu : a.eval y = u) (hv : a.eval z = v) (cells : Array Value)
    (hx : (Instr.buildSlice t len #[(i, u), (j, v)]).run P w = .ok (.slice (some ⟨w.heap.size, 0, none⟩) len len) (w.alloc (.cells cells e)))
    (h : ∀ w', Blk w' w.heap.size e cells → Below w.heap.size w w' → w'.heap.size = w.heap.size + 1 → wpList P ops Q rest (a.put o.dst (.slice (some ⟨w.heap.size, 0, none⟩) len len)) w') : wpList P ops Q (o :: rest) a w :=
  wpList_bsl hg t e len _ ho _ (by simp only [List.map_toArray, List.map_cons, List.map_nil, hu, hv]) cells hx h
end
/-- A part that fills all but the first cell. -/
theorem fill_tail (place : Nat → Option (Nat × Nat)) (c : Value) (zs vs : List Value) (i : Nat) (hp : place i = some (1, vs.length)) (hz : zs.length = vs.length) :
    Instr.fill place (c :: zs).toArray [(i, .agg vs.toArray)] = some (c :: vs).toArray := by
  obtain ⟨g1, g2⟩ := Great.foldl_set 1 vs 0 (c :: zs).toArray
  have e : (Value.agg vs.toArray).cells = vs.toArray := rfl
  simp only [Instr.fill, hp, e, List.size_toArray]
  rw [if_neg (by simp; omega)]
  congr 1
  rw [← Array.foldl_toList, Array.toList_zipIdx]
  refine Array.ext_getElem? fun k => ?_
  refine (g2 k).trans ?_
  simp only [Nat.add_zero, List.size_toArray, List.length_cons, List.getElem?_toArray]
  cases k with
  | zero => rw [if_neg (by omega)]; rfl
  | succ k =>
    by_cases h : k < vs.length
    · rw [if_pos (by omega)]; rfl
    · rw [if_neg (by omega), List.getElem?_cons_succ, List.getElem?_cons_succ, List.getElem?_eq_none (by omega), List.getElem?_eq_none (by omega)]
theorem item_built (e : Ev) (ho : HdOk e.2.2) (w : World) : (Instr.build 36 #[(1, .agg (evL e).toArray)]).run Tryd.prog w = .ok (.agg (itL (false, e)).toArray) w := by
  refine run_build w _ _ _ ?_
  obtain ⟨fs, hu, hp⟩ : ∃ fs, Tryd.prog.underlying 36 = some (.struct fs) ∧ fs.toList.mapM (fun f => (Tryd.prog.info? f.type).map fun i => (f.offset, i.size)) = some [(0, 1), (1, 100)] := ⟨_, Tryd.underlying36, by kernel_rfl⟩
  obtain ⟨i0, hi0, hz0, hz1, hz2⟩ := info_parts item_info
  unfold Program.built
  simp only [hi0, hu, hz0, hp]
  exact fill_tail _ (.bool false) (evL zeroEv) (evL e) 1 (by rw [evL_len e ho]; rfl) (by rw [evL_len e ho]; rfl)
theorem bslice_its (xs : List It) (ho : ItsOk xs) (h0 : 0 < xs.length) (h1 : xs.length ≤ 1000) (w : World) (vs : Array (Nat × Value)) (hv : vs.toList = ((xs.map fun x => Value.agg (itL x).toArray).zipIdx 0).map fun x => (x.2, x.1)) :
    (Instr.buildSlice 45 xs.length vs).run Tryd.prog w = .ok (.slice (some ⟨w.heap.size, 0, none⟩) xs.length xs.length) (w.alloc (.cells (itsL xs).toArray 36)) := by
  obtain ⟨i0, hi0, hz0, hz1, hz2⟩ := info_parts item_info
  refine run_buildSlice w _ _ _ vs _ i0 _ Tryd.underlying45 hi0 hz0 (by rw [hz1]; omega) (by rw [hz1]; omega) ?_
  rw [hz1, hv]
  have := Great.fill_whole (s := 101) (by omega) (xs.map fun x => Value.agg (itL x).toArray) ((Array.range (xs.length * 101)).map ((Value.agg zeroI).cells[· % (Value.agg zeroI).cells.size]!)) (fun v hv => by
    obtain ⟨x, hx, rfl⟩ := List.mem_map.1 hv
    show (itL x).toArray.size = 101
    rw [List.size_toArray, itL_len x (ho x hx)]) (by simp)
  refine this.trans ?_
  rw [List.flatMap_map]
  rfl
theorem Blk.rd {w : World} {g sz n : Nat} {t : TypeId} {xs : List Value} (h : Blk w g t xs.toArray) (hn : xs.length = n * sz) : Rd w g sz (some ⟨g, 0, none⟩) n xs :=
  ⟨hn, fun _ => ⟨g, 0, rfl, Nat.le_refl _, fun j _ => by rw [Nat.zero_add, h.cell j, List.getElem?_toArray]⟩⟩
theorem check_lit (r : Int) (A : Option Addr) (n c : Nat) (lost : Bool) (xs : List It) (ho : ItsOk xs) (hm : errOf (itsMay xs) = r) (w : World) (hr : Rd w 0 101 A n (itsL xs)) (hG : GOk w) :
    Calls Tryd.prog 34 #[.agg #[.slice A n c, .bool lost]] w fun e w' => e = .returned (.int .i64 r) ∧ Below w.heap.size w w' := by
  have := check_any A n c lost xs ho w hr hG
  rwa [hm] at this
theorem event_lit (q : Bool) (e : Ev) (ho : HdOk e.2.2) (hq : evMay e = q) (w : World) :
    Calls Tryd.prog 48 #[.agg (evL e).toArray] w fun e' w' => e' = .returned (.bool q) ∧ Below w.heap.size w w' := by
  have := event_any e ho w
  rwa [hq] at this
theorem itsMay_len {xs : List It} (h : itsMay xs = true) : xs.length ≤ 64 := by
  unfold itsMay at h
  rw [Bool.and_eq_true] at h
  simpa using h.1
theorem tap_built (w : World) : (Instr.build 47 #[]).run Tryd.prog w = .ok (.agg #[.slice none 0 0, .bool false]) w := by kernel_rfl
theorem ev_sizeA (e : Ev) (ho : HdOk e.2.2) : (Tryd.prog.info? 34).map (·.size) = some (evL e).toArray.size := by rw [List.size_toArray]; exact ev_size e ho
/-- What is pushed: the tap, the error. -/
def pushT (xs : List It) (lost : Bool) (room : Int) (e : Ev) : List It × Bool × Int :=
  if itsMay xs && evMay e then
    if 1 ≤ room ∧ room ≤ 64 then
      if lost then (if 2 ≤ room - xs.length then (xs ++ [gapIt, (false, e)], false, 0) else (xs, true, 0))
      else (if 1 ≤ room - xs.length then (xs ++ [(false, e)], false, 0) else (xs, true, 0))
    else ([], false, 2)
  else ([], false, 8)
/-- What Push answers. -/
def GivesU (w : World) (r : List It × Bool × Int) (e : Ending) (w' : World) : Prop :=
  ∃ D m c, e = .returned (.tuple #[.agg #[.slice D m c, .bool r.2.1], .int .i64 r.2.2]) ∧ Fr w' w.heap.size 101 D m (itsL r.1) ∧ Below w.heap.size w w'
set_option maxRecDepth 100000 in
set_option maxHeartbeats 4000000 in
theorem push_bad (A : Option Addr) (n c : Nat) (lost : Bool) (xs : List It) (ho : ItsOk xs) (room : Int) (e : Ev) (he : HdOk e.2.2) (w : World) (hr : Rd w 0 101 A n (itsL xs)) (hn : n ≤ 1000) (hG : GOk w) (hm : itsMay xs = false) :
    Calls Tryd.prog 27 #[.agg #[.slice A n c, .bool lost], .int .i64 room, .agg (evL e).toArray] w (GivesU w ([], false, 8)) := by
  have hC := hid (fun W h k => check_lit 8 A n c lost xs ho (by rw [hm]; rfl) W h k)
  have ox : ItOk (false, e) := he
  have hszE := ev_sizeA e he
  have hBI := hid (fun W => item_built e he W)
  have hsX := it_sizeA zeroIt zeroIt_ok
  have hXZ : (itL (false, e)).toArray.size = (itL zeroIt).toArray.size := by rw [List.size_toArray, List.size_toArray, itL_len _ ox, itL_len zeroIt zeroIt_ok]
  have hXs := it_sizeA (false, e) ox
  have honeX := hid (it_one (false, e))
  have hzr : Hid (∀ W, (zeroValue 36).run Tryd.prog W = .ok (.agg (itL zeroIt).toArray) W) := hid zeroI_run
  have HR := hid hr
  have HG := hid hG
  clear hr hG
  generalize hZL : (itL zeroIt).toArray = Z at *
  clear hZL
  generalize hXL : (itL (false, e)).toArray = X at *
  have HXL := hid hXL
  clear hXL
  generalize hEL : (evL e).toArray = E at *
  clear hEL
  go_enter Tryd.func27, Tryd.ntmps27
  go_upto_region 1 with (first
    | (refine wpList_bx rfl 47 _ rfl #[.slice A n c, .bool lost] rfl ?_; intro w1 hB1 hb1 hy; have hz1 := hid hy; clear hy)
    | (refine wpList_bx rfl 34 _ rfl E rfl ?_; intro w2 hB2 hb2 hy; have hz2 := hid hy; clear hy)
    | ((with_reducible refine at_alloc 47 ?_); refine wpList_al rfl 47 rfl _ (tap_zero _) ?_; intro w3 hB3 hb3 hy; have hz3 := hid hy; clear hy))
  have X0 := hid (below_chain (below_chain hb1 hb2) hb3)
  have X1 := hid ((hB1.belowS hb2).belowS hb3)
  have X2 := hid (hB2.belowS hb3)
  have X3 := hid hB3
  have l1 := (hB1.belowS hb2).lt
  have l2 := (hB2.belowS hb3).lt
  have l3 := hB2.lt
  have l4 := hB3.lt
  have e1 : w.heap.size < w1.heap.size := by have := hz1.out; omega
  clear hB1 hb1 hz1 hB2 hb2 hz2 hB3 hb3 hz3
  generalize w1.heap.size = g2 at *
  generalize w2.heap.size = g3 at *
  obtain ⟨a0, a1, a2, a3⟩ := two_facts X1.out
  go_upto_region 3 with (first
    | ((with_reducible refine at_load 34 ?_); refine wpList_ldr rfl 34 _ rfl g2 rfl _ E _ X2.out Tryd.underlying34 rfl hszE ?_)
    | ((with_reducible refine at_build 36 ?_); refine wpList_b1 rfl 36 1 _ rfl (.agg E) rfl X (hBI.out _) ?_)
    | ((with_reducible refine at_alloc 36 ?_); refine wpList_al rfl 36 rfl _ (hzr.out _) ?_; intro w4 hB4 hb4 hy; have hz4 := hid hy; clear hy)
    | ((with_reducible refine at_store 36 ?_); refine wpList_str rfl 36 _ _ rfl w3.heap.size X rfl rfl _ _ hB4 hXZ hsX honeX.out ?_; intro w5 hB5 hg5 hy; clear hy))
  have hb35 := hb4.grown hg5 hb4.size (by intro k e; cases e; exact Nat.le_refl _)
  have X0 := hid (below_chain X0.out hb35)
  have X1 := hid (X1.out.belowS hb35)
  have X2 := hid (X2.out.belowS hb35)
  have X3 := hid (X3.out.belowS hb35)
  have X4 := hid hB5
  have l5 := hB5.lt
  clear hB4 hb4 hz4 hB5 hg5 hb35 a0 a1 a2 a3
  generalize w3.heap.size = g4 at *
  obtain ⟨a0, a1, a2, a3⟩ := two_facts X1.out
  go_wp2_with (first
    | ((with_reducible refine (hC.out _ (HR.out.below X0.out) (HG.out.below X0.out)).mono ?_); rintro e w6 ⟨rfl, hb6⟩; clear a0 a1 a2 a3; obtain ⟨a0, a1, a2, a3⟩ := two_facts (X1.out.belowS hb6))
    | ((with_reducible refine at_build 47 ?_); refine wpList_bd rfl 47 rfl _ (tap_built _) ?_)
    | ((with_reducible refine at_store 47 ?_); refine wpList_str rfl 47 _ _ rfl g3 #[.slice none 0 0, .bool false] rfl rfl _ _ (X3.out.belowS hb6) rfl (tap_size _ _) (one_tap _ _ _ _) ?_; intro w8 hB8 hg8 hy; clear hy; obtain ⟨q0, q1, q2, q3⟩ := two_facts hB8))
  have hb0 := below_chain X0.out hb6
  have hbf := below_set hb0 hg8 (by omega)
  exact bodyPost_ret (v := .tuple #[.agg #[.slice none 0 0, .bool false], .int .i64 8]) (by simp [results, Tryd.f27, go_sem, q0, q1]) rfl ⟨none, 0, 0, rfl, Fr.nil _ _ _ _, hbf⟩

set_option maxRecDepth 100000 in
set_option maxHeartbeats 4000000 in
theorem push_ev (A : Option Addr) (n c : Nat) (lost : Bool) (xs : List It) (ho : ItsOk xs) (room : Int) (e : Ev) (he : HdOk e.2.2) (w : World) (hr : Rd w 0 101 A n (itsL xs)) (hn : n ≤ 1000) (hG : GOk w) (hm : itsMay xs = true) (hv : evMay e = false) :
    Calls Tryd.prog 27 #[.agg #[.slice A n c, .bool lost], .int .i64 room, .agg (evL e).toArray] w (GivesU w ([], false, 8)) := by
  have hC := hid (fun W h k => check_lit 0 A n c lost xs ho (by rw [hm]; rfl) W h k)
  have hV := hid (fun W => event_lit false e he hv W)
  have ox : ItOk (false, e) := he
  have hszE := ev_sizeA e he
  have hBI := hid (fun W => item_built e he W)
  have hsX := it_sizeA zeroIt zeroIt_ok
  have hXZ : (itL (false, e)).toArray.size = (itL zeroIt).toArray.size := by rw [List.size_toArray, List.size_toArray, itL_len _ ox, itL_len zeroIt zeroIt_ok]
  have hXs := it_sizeA (false, e) ox
  have honeX := hid (it_one (false, e))
  have hzr : Hid (∀ W, (zeroValue 36).run Tryd.prog W = .ok (.agg (itL zeroIt).toArray) W) := hid zeroI_run
  have HR := hid hr
  have HG := hid hG
  clear hr hG
  generalize hZL : (itL zeroIt).toArray = Z at *
  clear hZL
  generalize hXL : (itL (false, e)).toArray = X at *
  have HXL := hid hXL
  clear hXL
  generalize hEL : (evL e).toArray = E at *
  clear hEL
  go_enter Tryd.func27, Tryd.ntmps27
  go_upto_region 1 with (first
    | (refine wpList_bx rfl 47 _ rfl #[.slice A n c, .bool lost] rfl ?_; intro w1 hB1 hb1 hy; have hz1 := hid hy; clear hy)
    | (refine wpList_bx rfl 34 _ rfl E rfl ?_; intro w2 hB2 hb2 hy; have hz2 := hid hy; clear hy)
    | ((with_reducible refine at_alloc 47 ?_); refine wpList_al rfl 47 rfl _ (tap_zero _) ?_; intro w3 hB3 hb3 hy; have hz3 := hid hy; clear hy))
  have X0 := hid (below_chain (below_chain hb1 hb2) hb3)
  have X1 := hid ((hB1.belowS hb2).belowS hb3)
  have X2 := hid (hB2.belowS hb3)
  have X3 := hid hB3
  have l1 := (hB1.belowS hb2).lt
  have l2 := (hB2.belowS hb3).lt
  have l3 := hB2.lt
  have l4 := hB3.lt
  have e1 : w.heap.size < w1.heap.size := by have := hz1.out; omega
  clear hB1 hb1 hz1 hB2 hb2 hz2 hB3 hb3 hz3
  generalize w1.heap.size = g2 at *
  generalize w2.heap.size = g3 at *
  obtain ⟨a0, a1, a2, a3⟩ := two_facts X1.out
  go_upto_region 3 with (first
    | ((with_reducible refine at_load 34 ?_); refine wpList_ldr rfl 34 _ rfl g2 rfl _ E _ X2.out Tryd.underlying34 rfl hszE ?_)
    | ((with_reducible refine at_build 36 ?_); refine wpList_b1 rfl 36 1 _ rfl (.agg E) rfl X (hBI.out _) ?_)
    | ((with_reducible refine at_alloc 36 ?_); refine wpList_al rfl 36 rfl _ (hzr.out _) ?_; intro w4 hB4 hb4 hy; have hz4 := hid hy; clear hy)
    | ((with_reducible refine at_store 36 ?_); refine wpList_str rfl 36 _ _ rfl w3.heap.size X rfl rfl _ _ hB4 hXZ hsX honeX.out ?_; intro w5 hB5 hg5 hy; clear hy))
  have hb35 := hb4.grown hg5 hb4.size (by intro k e; cases e; exact Nat.le_refl _)
  have X0 := hid (below_chain X0.out hb35)
  have X1 := hid (X1.out.belowS hb35)
  have X2 := hid (X2.out.belowS hb35)
  have X3 := hid (X3.out.belowS hb35)
  have X4 := hid hB5
  have l5 := hB5.lt
  clear hB4 hb4 hz4 hB5 hg5 hb35 a0 a1 a2 a3
  generalize w3.heap.size = g4 at *
  obtain ⟨a0, a1, a2, a3⟩ := two_facts X1.out
  go_wp2_with (first
    | ((with_reducible refine (hC.out _ (HR.out.below X0.out) (HG.out.below X0.out)).mono ?_); rintro e w6 ⟨rfl, hb6⟩; clear a0 a1 a2 a3; obtain ⟨a0, a1, a2, a3⟩ := two_facts (X1.out.belowS hb6))
    | ((with_reducible refine at_load 34 ?_); refine wpList_ldr_g (by kernel_rfl) 34 _ rfl g2 rfl _ E _ (X2.out.belowS hb6) Tryd.underlying34 rfl hszE ?_)
    | ((with_reducible refine (hV.out _).mono ?_); rintro e w7 ⟨rfl, hb7⟩; clear a0 a1 a2 a3; obtain ⟨a0, a1, a2, a3⟩ := two_facts ((X1.out.belowS hb6).belowS hb7))
    | ((with_reducible refine at_build 47 ?_); refine wpList_bd rfl 47 rfl _ (tap_built _) ?_)
    | ((with_reducible refine at_store 47 ?_); refine wpList_str rfl 47 _ _ rfl g3 #[.slice none 0 0, .bool false] rfl rfl _ _ ((X3.out.belowS hb6).belowS hb7) rfl (tap_size _ _) (one_tap _ _ _ _) ?_; intro w8 hB8 hg8 hy; clear hy; obtain ⟨q0, q1, q2, q3⟩ := two_facts hB8))
  have hb0 := below_chain (below_chain X0.out hb6) hb7
  have hbf := below_set hb0 hg8 (by omega)
  exact bodyPost_ret (v := .tuple #[.agg #[.slice none 0 0, .bool false], .int .i64 8]) (by simp [results, Tryd.f27, go_sem, q0, q1]) rfl ⟨none, 0, 0, rfl, Fr.nil _ _ _ _, hbf⟩

set_option maxRecDepth 100000 in
set_option maxHeartbeats 4000000 in
theorem push_small (A : Option Addr) (n c : Nat) (lost : Bool) (xs : List It) (ho : ItsOk xs) (room : Int) (e : Ev) (he : HdOk e.2.2) (w : World) (hr : Rd w 0 101 A n (itsL xs)) (hn : n ≤ 1000) (hG : GOk w) (hm : itsMay xs = true) (hv : evMay e = true) (hrm : room < 1) :
    Calls Tryd.prog 27 #[.agg #[.slice A n c, .bool lost], .int .i64 room, .agg (evL e).toArray] w (GivesU w ([], false, 2)) := by
  have hC := hid (fun W h k => check_lit 0 A n c lost xs ho (by rw [hm]; rfl) W h k)
  have hV := hid (fun W => event_lit true e he hv W)
  have ox : ItOk (false, e) := he
  have hszE := ev_sizeA e he
  have hBI := hid (fun W => item_built e he W)
  have hsX := it_sizeA zeroIt zeroIt_ok
  have hXZ : (itL (false, e)).toArray.size = (itL zeroIt).toArray.size := by rw [List.size_toArray, List.size_toArray, itL_len _ ox, itL_len zeroIt zeroIt_ok]
  have hXs := it_sizeA (false, e) ox
  have honeX := hid (it_one (false, e))
  have hzr : Hid (∀ W, (zeroValue 36).run Tryd.prog W = .ok (.agg (itL zeroIt).toArray) W) := hid zeroI_run
  have HR := hid hr
  have HG := hid hG
  clear hr hG
  generalize hZL : (itL zeroIt).toArray = Z at *
  clear hZL
  generalize hXL : (itL (false, e)).toArray = X at *
  have HXL := hid hXL
  clear hXL
  generalize hEL : (evL e).toArray = E at *
  clear hEL
  go_enter Tryd.func27, Tryd.ntmps27
  go_upto_region 1 with (first
    | (refine wpList_bx rfl 47 _ rfl #[.slice A n c, .bool lost] rfl ?_; intro w1 hB1 hb1 hy; have hz1 := hid hy; clear hy)
    | (refine wpList_bx rfl 34 _ rfl E rfl ?_; intro w2 hB2 hb2 hy; have hz2 := hid hy; clear hy)
    | ((with_reducible refine at_alloc 47 ?_); refine wpList_al rfl 47 rfl _ (tap_zero _) ?_; intro w3 hB3 hb3 hy; have hz3 := hid hy; clear hy))
  have X0 := hid (below_chain (below_chain hb1 hb2) hb3)
  have X1 := hid ((hB1.belowS hb2).belowS hb3)
  have X2 := hid (hB2.belowS hb3)
  have X3 := hid hB3
  have l1 := (hB1.belowS hb2).lt
  have l2 := (hB2.belowS hb3).lt
  have l3 := hB2.lt
  have l4 := hB3.lt
  have e1 : w.heap.size < w1.heap.size := by have := hz1.out; omega
  clear hB1 hb1 hz1 hB2 hb2 hz2 hB3 hb3 hz3
  generalize w1.heap.size = g2 at *
  generalize w2.heap.size = g3 at *
  obtain ⟨a0, a1, a2, a3⟩ := two_facts X1.out
  go_upto_region 3 with (first
    | ((with_reducible refine at_load 34 ?_); refine wpList_ldr rfl 34 _ rfl g2 rfl _ E _ X2.out Tryd.underlying34 rfl hszE ?_)
    | ((with_reducible refine at_build 36 ?_); refine wpList_b1 rfl 36 1 _ rfl (.agg E) rfl X (hBI.out _) ?_)
    | ((with_reducible refine at_alloc 36 ?_); refine wpList_al rfl 36 rfl _ (hzr.out _) ?_; intro w4 hB4 hb4 hy; have hz4 := hid hy; clear hy)
    | ((with_reducible refine at_store 36 ?_); refine wpList_str rfl 36 _ _ rfl w3.heap.size X rfl rfl _ _ hB4 hXZ hsX honeX.out ?_; intro w5 hB5 hg5 hy; clear hy))
  have hb35 := hb4.grown hg5 hb4.size (by intro k e; cases e; exact Nat.le_refl _)
  have X0 := hid (below_chain X0.out hb35)
  have X1 := hid (X1.out.belowS hb35)
  have X2 := hid (X2.out.belowS hb35)
  have X3 := hid (X3.out.belowS hb35)
  have X4 := hid hB5
  have l5 := hB5.lt
  clear hB4 hb4 hz4 hB5 hg5 hb35 a0 a1 a2 a3
  generalize w3.heap.size = g4 at *
  obtain ⟨a0, a1, a2, a3⟩ := two_facts X1.out
  go_wp2_with (first
    | ((with_reducible refine (hC.out _ (HR.out.below X0.out) (HG.out.below X0.out)).mono ?_); rintro e w6 ⟨rfl, hb6⟩; clear a0 a1 a2 a3; obtain ⟨a0, a1, a2, a3⟩ := two_facts (X1.out.belowS hb6))
    | ((with_reducible refine at_load 34 ?_); refine wpList_ldr_g (by kernel_rfl) 34 _ rfl g2 rfl _ E _ (X2.out.belowS hb6) Tryd.underlying34 rfl hszE ?_)
    | ((with_reducible refine (hV.out _).mono ?_); rintro e w7 ⟨rfl, hb7⟩; clear a0 a1 a2 a3; obtain ⟨a0, a1, a2, a3⟩ := two_facts ((X1.out.belowS hb6).belowS hb7))
    | ((with_reducible refine at_build 47 ?_); refine wpList_bd rfl 47 rfl _ (tap_built _) ?_)
    | ((with_reducible refine at_store 47 ?_); refine wpList_str rfl 47 _ _ rfl g3 #[.slice none 0 0, .bool false] rfl rfl _ _ ((X3.out.belowS hb6).belowS hb7) rfl (tap_size _ _) (one_tap _ _ _ _) ?_; intro w8 hB8 hg8 hy; clear hy; obtain ⟨q0, q1, q2, q3⟩ := two_facts hB8))
  have hb0 := below_chain (below_chain X0.out hb6) hb7
  have hbf := below_set hb0 hg8 (by omega)
  exact bodyPost_ret (v := .tuple #[.agg #[.slice none 0 0, .bool false], .int .i64 2]) (by simp [results, Tryd.f27, go_sem, q0, q1]) rfl ⟨none, 0, 0, rfl, Fr.nil _ _ _ _, hbf⟩

set_option maxRecDepth 100000 in
set_option maxHeartbeats 4000000 in
theorem push_large (A : Option Addr) (n c : Nat) (lost : Bool) (xs : List It) (ho : ItsOk xs) (room : Int) (e : Ev) (he : HdOk e.2.2) (w : World) (hr : Rd w 0 101 A n (itsL xs)) (hn : n ≤ 1000) (hG : GOk w) (hm : itsMay xs = true) (hv : evMay e = true) (hrl : 1 ≤ room) (hrm : 64 < room) :
    Calls Tryd.prog 27 #[.agg #[.slice A n c, .bool lost], .int .i64 room, .agg (evL e).toArray] w (GivesU w ([], false, 2)) := by
  have hC := hid (fun W h k => check_lit 0 A n c lost xs ho (by rw [hm]; rfl) W h k)
  have hV := hid (fun W => event_lit true e he hv W)
  have ox : ItOk (false, e) := he
  have hszE := ev_sizeA e he
  have hBI := hid (fun W => item_built e he W)
  have hsX := it_sizeA zeroIt zeroIt_ok
  have hXZ : (itL (false, e)).toArray.size = (itL zeroIt).toArray.size := by rw [List.size_toArray, List.size_toArray, itL_len _ ox, itL_len zeroIt zeroIt_ok]
  have hXs := it_sizeA (false, e) ox
  have honeX := hid (it_one (false, e))
  have hzr : Hid (∀ W, (zeroValue 36).run Tryd.prog W = .ok (.agg (itL zeroIt).toArray) W) := hid zeroI_run
  have HR := hid hr
  have HG := hid hG
  clear hr hG
  generalize hZL : (itL zeroIt).toArray = Z at *
  clear hZL
  generalize hXL : (itL (false, e)).toArray = X at *
  have HXL := hid hXL
  clear hXL
  generalize hEL : (evL e).toArray = E at *
  clear hEL
  go_enter Tryd.func27, Tryd.ntmps27
  go_upto_region 1 with (first
    | (refine wpList_bx rfl 47 _ rfl #[.slice A n c, .bool lost] rfl ?_; intro w1 hB1 hb1 hy; have hz1 := hid hy; clear hy)
    | (refine wpList_bx rfl 34 _ rfl E rfl ?_; intro w2 hB2 hb2 hy; have hz2 := hid hy; clear hy)
    | ((with_reducible refine at_alloc 47 ?_); refine wpList_al rfl 47 rfl _ (tap_zero _) ?_; intro w3 hB3 hb3 hy; have hz3 := hid hy; clear hy))
  have X0 := hid (below_chain (below_chain hb1 hb2) hb3)
  have X1 := hid ((hB1.belowS hb2).belowS hb3)
  have X2 := hid (hB2.belowS hb3)
  have X3 := hid hB3
  have l1 := (hB1.belowS hb2).lt
  have l2 := (hB2.belowS hb3).lt
  have l3 := hB2.lt
  have l4 := hB3.lt
  have e1 : w.heap.size < w1.heap.size := by have := hz1.out; omega
  clear hB1 hb1 hz1 hB2 hb2 hz2 hB3 hb3 hz3
  generalize w1.heap.size = g2 at *
  generalize w2.heap.size = g3 at *
  obtain ⟨a0, a1, a2, a3⟩ := two_facts X1.out
  go_upto_region 3 with (first
    | ((with_reducible refine at_load 34 ?_); refine wpList_ldr rfl 34 _ rfl g2 rfl _ E _ X2.out Tryd.underlying34 rfl hszE ?_)
    | ((with_reducible refine at_build 36 ?_); refine wpList_b1 rfl 36 1 _ rfl (.agg E) rfl X (hBI.out _) ?_)
    | ((with_reducible refine at_alloc 36 ?_); refine wpList_al rfl 36 rfl _ (hzr.out _) ?_; intro w4 hB4 hb4 hy; have hz4 := hid hy; clear hy)
    | ((with_reducible refine at_store 36 ?_); refine wpList_str rfl 36 _ _ rfl w3.heap.size X rfl rfl _ _ hB4 hXZ hsX honeX.out ?_; intro w5 hB5 hg5 hy; clear hy))
  have hb35 := hb4.grown hg5 hb4.size (by intro k e; cases e; exact Nat.le_refl _)
  have X0 := hid (below_chain X0.out hb35)
  have X1 := hid (X1.out.belowS hb35)
  have X2 := hid (X2.out.belowS hb35)
  have X3 := hid (X3.out.belowS hb35)
  have X4 := hid hB5
  have l5 := hB5.lt
  clear hB4 hb4 hz4 hB5 hg5 hb35 a0 a1 a2 a3
  generalize w3.heap.size = g4 at *
  obtain ⟨a0, a1, a2, a3⟩ := two_facts X1.out
  go_wp2_with (first
    | ((with_reducible refine (hC.out _ (HR.out.below X0.out) (HG.out.below X0.out)).mono ?_); rintro e w6 ⟨rfl, hb6⟩; clear a0 a1 a2 a3; obtain ⟨a0, a1, a2, a3⟩ := two_facts (X1.out.belowS hb6))
    | ((with_reducible refine at_load 34 ?_); refine wpList_ldr_g (by kernel_rfl) 34 _ rfl g2 rfl _ E _ (X2.out.belowS hb6) Tryd.underlying34 rfl hszE ?_)
    | ((with_reducible refine (hV.out _).mono ?_); rintro e w7 ⟨rfl, hb7⟩; clear a0 a1 a2 a3; obtain ⟨a0, a1, a2, a3⟩ := two_facts ((X1.out.belowS hb6).belowS hb7))
    | ((with_reducible refine at_build 47 ?_); refine wpList_bd rfl 47 rfl _ (tap_built _) ?_)
    | ((with_reducible refine at_store 47 ?_); refine wpList_str rfl 47 _ _ rfl g3 #[.slice none 0 0, .bool false] rfl rfl _ _ ((X3.out.belowS hb6).belowS hb7) rfl (tap_size _ _) (one_tap _ _ _ _) ?_; intro w8 hB8 hg8 hy; clear hy; obtain ⟨q0, q1, q2, q3⟩ := two_facts hB8))
  have hb0 := below_chain (below_chain X0.out hb6) hb7
  have hbf := below_set hb0 hg8 (by omega)
  exact bodyPost_ret (v := .tuple #[.agg #[.slice none 0 0, .bool false], .int .i64 2]) (by simp [results, Tryd.f27, go_sem, q0, q1]) rfl ⟨none, 0, 0, rfl, Fr.nil _ _ _ _, hbf⟩

set_option maxRecDepth 100000 in
set_option maxHeartbeats 4000000 in
theorem push_gap (A : Option Addr) (n c : Nat)  (xs : List It) (ho : ItsOk xs) (room : Int) (e : Ev) (he : HdOk e.2.2) (w : World) (hr : Rd w 0 101 A n (itsL xs)) (hn : n ≤ 1000) (hG : GOk w) (hm : itsMay xs = true) (hv : evMay e = true) (hr1 : 1 ≤ room) (hr2 : room ≤ 64) (hrm : 2 ≤ room - xs.length) :
    Calls Tryd.prog 27 #[.agg #[.slice A n c, .bool true], .int .i64 room, .agg (evL e).toArray] w (GivesU w (xs ++ [gapIt, (false, e)], false, 0)) := by
  have hC := hid (fun W h k => check_lit 0 A n c true xs ho (by rw [hm]; rfl) W h k)
  have hV := hid (fun W => event_lit true e he hv W)
  have hl := rd_len ho hr
  have hn64 := itsMay_len hm
  have hn64 : (n : Int) ≤ 64 := by omega
  have hl : (xs.length : Int) = n := by omega
  have HO := hid ho
  have hrn : (2 : Int) ≤ room - n := by omega
  have hq1 : ¬ room < 1 := by omega
  have hq2 : ¬ 64 < room := by omega
  clear hl hrm
  have hBS := hid (fun W => bslice_its [gapIt, (false, e)] (fun x hx => by simp at hx; rcases hx with rfl | rfl; exact gapIt_ok; exact he) (by simp) (by simp) W #[(0, .agg (itL gapIt).toArray), (1, .agg (itL (false, e)).toArray)] rfl)
  have hysO : ItsOk [gapIt, (false, e)] := fun x hx => by simp at hx; rcases hx with rfl | rfl; exact gapIt_ok; exact he
  have hysL := itsL_len [gapIt, (false, e)] hysO
  have hW := hid (fun W B (h : Rd W 0 101 A n (itsL xs)) (k : Rd W 0 101 B 2 (itsL [gapIt, (false, e)])) => with_any A n c true xs ho B 2 2 [gapIt, (false, e)] hysO W h k hn (by decide))
  have HGr : Hid (∀ W, GOk W → W.rangeAt 0 0 (itL gapIt)) := hid (fun W h => h)
  have hszG := it_size gapIt gapIt_ok
  generalize itL gapIt = GP at *
  have ox : ItOk (false, e) := he
  have hszE := ev_sizeA e he
  have hBI := hid (fun W => item_built e he W)
  have hsX := it_sizeA zeroIt zeroIt_ok
  have hXZ : (itL (false, e)).toArray.size = (itL zeroIt).toArray.size := by rw [List.size_toArray, List.size_toArray, itL_len _ ox, itL_len zeroIt zeroIt_ok]
  have hXs := it_sizeA (false, e) ox
  have honeX := hid (it_one (false, e))
  have hzr : Hid (∀ W, (zeroValue 36).run Tryd.prog W = .ok (.agg (itL zeroIt).toArray) W) := hid zeroI_run
  have HR := hid hr
  have HG := hid hG
  clear hr hG
  generalize hZL : (itL zeroIt).toArray = Z at *
  clear hZL
  generalize hXL : (itL (false, e)).toArray = X at *
  have HXL := hid hXL
  clear hXL
  generalize hEL : (evL e).toArray = E at *
  clear hEL
  go_enter Tryd.func27, Tryd.ntmps27
  go_upto_region 1 with (first
    | (refine wpList_bx rfl 47 _ rfl #[.slice A n c, .bool true] rfl ?_; intro w1 hB1 hb1 hy; have hz1 := hid hy; clear hy)
    | (refine wpList_bx rfl 34 _ rfl E rfl ?_; intro w2 hB2 hb2 hy; have hz2 := hid hy; clear hy)
    | ((with_reducible refine at_alloc 47 ?_); refine wpList_al rfl 47 rfl _ (tap_zero _) ?_; intro w3 hB3 hb3 hy; have hz3 := hid hy; clear hy))
  have X0 := hid (below_chain (below_chain hb1 hb2) hb3)
  have X1 := hid ((hB1.belowS hb2).belowS hb3)
  have X2 := hid (hB2.belowS hb3)
  have X3 := hid hB3
  have l1 := (hB1.belowS hb2).lt
  have l2 := (hB2.belowS hb3).lt
  have l3 := hB2.lt
  have l4 := hB3.lt
  have e1 : w.heap.size < w1.heap.size := by have := hz1.out; omega
  clear hB1 hb1 hz1 hB2 hb2 hz2 hB3 hb3 hz3
  generalize w1.heap.size = g2 at *
  generalize w2.heap.size = g3 at *
  obtain ⟨a0, a1, a2, a3⟩ := two_facts X1.out
  go_upto_region 3 with (first
    | ((with_reducible refine at_load 34 ?_); refine wpList_ldr rfl 34 _ rfl g2 rfl _ E _ X2.out Tryd.underlying34 rfl hszE ?_)
    | ((with_reducible refine at_build 36 ?_); refine wpList_b1 rfl 36 1 _ rfl (.agg E) rfl X (hBI.out _) ?_)
    | ((with_reducible refine at_alloc 36 ?_); refine wpList_al rfl 36 rfl _ (hzr.out _) ?_; intro w4 hB4 hb4 hy; have hz4 := hid hy; clear hy)
    | ((with_reducible refine at_store 36 ?_); refine wpList_str rfl 36 _ _ rfl w3.heap.size X rfl rfl _ _ hB4 hXZ hsX honeX.out ?_; intro w5 hB5 hg5 hy; clear hy))
  have hb35 := hb4.grown hg5 hb4.size (by intro k e; cases e; exact Nat.le_refl _)
  have X0 := hid (below_chain X0.out hb35)
  have X1 := hid (X1.out.belowS hb35)
  have X2 := hid (X2.out.belowS hb35)
  have X3 := hid (X3.out.belowS hb35)
  have X4 := hid hB5
  have l5 := hB5.lt
  clear hB4 hb4 hz4 hB5 hg5 hb35 a0 a1 a2 a3
  generalize w3.heap.size = g4 at *
  obtain ⟨a0, a1, a2, a3⟩ := two_facts X1.out
  go_upto_region 8 with (first
    | ((with_reducible refine (hC.out _ (HR.out.below X0.out) (HG.out.below X0.out)).mono ?_); rintro e w6 ⟨rfl, hb6⟩; clear a0 a1 a2 a3; obtain ⟨a0, a1, a2, a3⟩ := two_facts (X1.out.belowS hb6))
    | ((with_reducible refine at_load 34 ?_); refine wpList_ldr_g (by kernel_rfl) 34 _ rfl g2 rfl _ E _ (X2.out.belowS hb6) Tryd.underlying34 rfl hszE ?_)
    | ((with_reducible refine (hV.out _).mono ?_); rintro e w7 ⟨rfl, hb7⟩; clear a0 a1 a2 a3; obtain ⟨a0, a1, a2, a3⟩ := two_facts ((X1.out.belowS hb6).belowS hb7)))
  have X0 := hid (below_chain (below_chain X0.out hb6) hb7)
  have X1 := hid ((X1.out.belowS hb6).belowS hb7)
  have X2 := hid ((X2.out.belowS hb6).belowS hb7)
  have X3 := hid ((X3.out.belowS hb6).belowS hb7)
  have X4 := hid ((X4.out.belowS hb6).belowS hb7)
  have HR := hid (HR.out.below X0.out)
  have HG := hid (HG.out.below X0.out)
  have l6 := hb6.size
  have l7 := hb7.size
  have lX := X4.out.lt
  clear hb6 hb7
  have G7 := HGr.out _ HG.out
  go_wp2_with (first
    | ((with_reducible refine at_load (d := some 44) 36 ?_); refine wpList_load_mid rfl 36 _ rfl 0 0 rfl GP _ G7 Tryd.underlying36 rfl hszG ?_)
    | ((with_reducible refine at_load (d := some 45) 36 ?_); refine wpList_ldr rfl 36 _ rfl g4 rfl _ X _ X4.out Tryd.underlying36 rfl hXs ?_)
    | ((with_reducible refine at_bslice 45 ?_); refine wpList_bsl2 rfl 45 36 2 0 1 _ _ rfl (.agg GP.toArray) (.agg X) rfl rfl _ (hBS.out _) ?_; intro w8 hB8 hb8 hy; clear hy)
    | ((with_reducible refine (hW.out _ _ (HR.out.below hb8) ((hB8.rd hysL).low (Nat.zero_le _))).mono ?_); rintro e w9 ⟨D, k, rfl, hO, hb9⟩)
    | ((with_reducible refine at_store 47 ?_); refine wpList_str rfl 47 _ _ rfl g3 _ rfl rfl _ _ ((X3.out.belowS hb8).belowS hb9) rfl (tap_size _ _) (one_tap _ _ _ _) ?_; intro w10 hB10 hg10 hy; clear hy; obtain ⟨q0, q1, q2, q3⟩ := two_facts hB10))
  have l8 := hb8.size
  have hbf := below_set (below_chain (below_chain X0.out hb8) hb9) hg10 (by omega)
  have l3' := X3.out.lt
  have hFf := (hO.fr.chg (by omega) (Chg.of_grown hg10) (fun b hb e => by have := Option.some.inj e; omega)).low (lo' := w.heap.size) (by omega)
  exact bodyPost_ret (v := .tuple #[.agg #[.slice D (xs ++ [gapIt, (false, e)]).length k, .bool false], .int .i64 0]) (by simp [results, Tryd.f27, go_sem, q0, q1, hl]) rfl ⟨D, _, k, rfl, hFf, hbf⟩

set_option maxRecDepth 100000 in
set_option maxHeartbeats 4000000 in
theorem push_one (A : Option Addr) (n c : Nat)  (xs : List It) (ho : ItsOk xs) (room : Int) (e : Ev) (he : HdOk e.2.2) (w : World) (hr : Rd w 0 101 A n (itsL xs)) (hn : n ≤ 1000) (hG : GOk w) (hm : itsMay xs = true) (hv : evMay e = true) (hr1 : 1 ≤ room) (hr2 : room ≤ 64) (hrm : 1 ≤ room - xs.length) :
    Calls Tryd.prog 27 #[.agg #[.slice A n c, .bool false], .int .i64 room, .agg (evL e).toArray] w (GivesU w (xs ++ [(false, e)], false, 0)) := by
  have hC := hid (fun W h k => check_lit 0 A n c false xs ho (by rw [hm]; rfl) W h k)
  have hV := hid (fun W => event_lit true e he hv W)
  have hl := rd_len ho hr
  have hn64 := itsMay_len hm
  have hn64 : (n : Int) ≤ 64 := by omega
  have hl : (xs.length : Int) = n := by omega
  have HO := hid ho
  have hrn : (1 : Int) ≤ room - n := by omega
  have hq1 : ¬ room < 1 := by omega
  have hq2 : ¬ 64 < room := by omega
  clear hl hrm
  have hBS := hid (fun W => bslice_its [(false, e)] (fun x hx => by simp at hx; subst hx; exact he) (by simp) (by simp) W #[(0, .agg (itL (false, e)).toArray)] rfl)
  have hysO : ItsOk [(false, e)] := fun x hx => by simp at hx; subst hx; exact he
  have hysL := itsL_len [(false, e)] hysO
  have hW := hid (fun W B (h : Rd W 0 101 A n (itsL xs)) (k : Rd W 0 101 B 1 (itsL [(false, e)])) => with_any A n c false xs ho B 1 1 [(false, e)] hysO W h k hn (by decide))
  have ox : ItOk (false, e) := he
  have hszE := ev_sizeA e he
  have hBI := hid (fun W => item_built e he W)
  have hsX := it_sizeA zeroIt zeroIt_ok
  have hXZ : (itL (false, e)).toArray.size = (itL zeroIt).toArray.size := by rw [List.size_toArray, List.size_toArray, itL_len _ ox, itL_len zeroIt zeroIt_ok]
  have hXs := it_sizeA (false, e) ox
  have honeX := hid (it_one (false, e))
  have hzr : Hid (∀ W, (zeroValue 36).run Tryd.prog W = .ok (.agg (itL zeroIt).toArray) W) := hid zeroI_run
  have HR := hid hr
  have HG := hid hG
  clear hr hG
  generalize hZL : (itL zeroIt).toArray = Z at *
  clear hZL
  generalize hXL : (itL (false, e)).toArray = X at *
  have HXL := hid hXL
  clear hXL
  generalize hEL : (evL e).toArray = E at *
  clear hEL
  go_enter Tryd.func27, Tryd.ntmps27
  go_upto_region 1 with (first
    | (refine wpList_bx rfl 47 _ rfl #[.slice A n c, .bool false] rfl ?_; intro w1 hB1 hb1 hy; have hz1 := hid hy; clear hy)
    | (refine wpList_bx rfl 34 _ rfl E rfl ?_; intro w2 hB2 hb2 hy; have hz2 := hid hy; clear hy)
    | ((with_reducible refine at_alloc 47 ?_); refine wpList_al rfl 47 rfl _ (tap_zero _) ?_; intro w3 hB3 hb3 hy; have hz3 := hid hy; clear hy))
  have X0 := hid (below_chain (below_chain hb1 hb2) hb3)
  have X1 := hid ((hB1.belowS hb2).belowS hb3)
  have X2 := hid (hB2.belowS hb3)
  have X3 := hid hB3
  have l1 := (hB1.belowS hb2).lt
  have l2 := (hB2.belowS hb3).lt
  have l3 := hB2.lt
  have l4 := hB3.lt
  have e1 : w.heap.size < w1.heap.size := by have := hz1.out; omega
  clear hB1 hb1 hz1 hB2 hb2 hz2 hB3 hb3 hz3
  generalize w1.heap.size = g2 at *
  generalize w2.heap.size = g3 at *
  obtain ⟨a0, a1, a2, a3⟩ := two_facts X1.out
  go_upto_region 3 with (first
    | ((with_reducible refine at_load 34 ?_); refine wpList_ldr rfl 34 _ rfl g2 rfl _ E _ X2.out Tryd.underlying34 rfl hszE ?_)
    | ((with_reducible refine at_build 36 ?_); refine wpList_b1 rfl 36 1 _ rfl (.agg E) rfl X (hBI.out _) ?_)
    | ((with_reducible refine at_alloc 36 ?_); refine wpList_al rfl 36 rfl _ (hzr.out _) ?_; intro w4 hB4 hb4 hy; have hz4 := hid hy; clear hy)
    | ((with_reducible refine at_store 36 ?_); refine wpList_str rfl 36 _ _ rfl w3.heap.size X rfl rfl _ _ hB4 hXZ hsX honeX.out ?_; intro w5 hB5 hg5 hy; clear hy))
  have hb35 := hb4.grown hg5 hb4.size (by intro k e; cases e; exact Nat.le_refl _)
  have X0 := hid (below_chain X0.out hb35)
  have X1 := hid (X1.out.belowS hb35)
  have X2 := hid (X2.out.belowS hb35)
  have X3 := hid (X3.out.belowS hb35)
  have X4 := hid hB5
  have l5 := hB5.lt
  clear hB4 hb4 hz4 hB5 hg5 hb35 a0 a1 a2 a3
  generalize w3.heap.size = g4 at *
  obtain ⟨a0, a1, a2, a3⟩ := two_facts X1.out
  go_upto_region 10 with (first
    | ((with_reducible refine (hC.out _ (HR.out.below X0.out) (HG.out.below X0.out)).mono ?_); rintro e w6 ⟨rfl, hb6⟩; clear a0 a1 a2 a3; obtain ⟨a0, a1, a2, a3⟩ := two_facts (X1.out.belowS hb6))
    | ((with_reducible refine at_load 34 ?_); refine wpList_ldr_g (by kernel_rfl) 34 _ rfl g2 rfl _ E _ (X2.out.belowS hb6) Tryd.underlying34 rfl hszE ?_)
    | ((with_reducible refine (hV.out _).mono ?_); rintro e w7 ⟨rfl, hb7⟩; clear a0 a1 a2 a3; obtain ⟨a0, a1, a2, a3⟩ := two_facts ((X1.out.belowS hb6).belowS hb7)))
  have X0 := hid (below_chain (below_chain X0.out hb6) hb7)
  have X1 := hid ((X1.out.belowS hb6).belowS hb7)
  have X2 := hid ((X2.out.belowS hb6).belowS hb7)
  have X3 := hid ((X3.out.belowS hb6).belowS hb7)
  have X4 := hid ((X4.out.belowS hb6).belowS hb7)
  have HR := hid (HR.out.below X0.out)
  have HG := hid (HG.out.below X0.out)
  have l6 := hb6.size
  have l7 := hb7.size
  have lX := X4.out.lt
  clear hb6 hb7
  go_wp2_with (first
    | ((with_reducible refine at_load (d := some 57) 36 ?_); refine wpList_ldr rfl 36 _ rfl g4 rfl _ X _ X4.out Tryd.underlying36 rfl hXs ?_)
    | ((with_reducible refine at_bslice 45 ?_); refine wpList_bsl1 rfl 45 36 1 0 _ rfl (.agg X) rfl _ (hBS.out _) ?_; intro w8 hB8 hb8 hy; clear hy)
    | ((with_reducible refine (hW.out _ _ (HR.out.below hb8) ((hB8.rd hysL).low (Nat.zero_le _))).mono ?_); rintro e w9 ⟨D, k, rfl, hO, hb9⟩)
    | ((with_reducible refine at_store 47 ?_); refine wpList_str rfl 47 _ _ rfl g3 _ rfl rfl _ _ ((X3.out.belowS hb8).belowS hb9) rfl (tap_size _ _) (one_tap _ _ _ _) ?_; intro w10 hB10 hg10 hy; clear hy; obtain ⟨q0, q1, q2, q3⟩ := two_facts hB10))
  have l8 := hb8.size
  have hbf := below_set (below_chain (below_chain X0.out hb8) hb9) hg10 (by omega)
  have l3' := X3.out.lt
  have hFf := (hO.fr.chg (by omega) (Chg.of_grown hg10) (fun b hb e => by have := Option.some.inj e; omega)).low (lo' := w.heap.size) (by omega)
  exact bodyPost_ret (v := .tuple #[.agg #[.slice D (xs ++ [(false, e)]).length k, .bool false], .int .i64 0]) (by simp [results, Tryd.f27, go_sem, q0, q1, hl]) rfl ⟨D, _, k, rfl, hFf, hbf⟩

set_option maxRecDepth 100000 in
set_option maxHeartbeats 4000000 in
theorem push_keep (A : Option Addr) (n c : Nat)  (xs : List It) (ho : ItsOk xs) (room : Int) (e : Ev) (he : HdOk e.2.2) (w : World) (hr : Rd w 0 101 A n (itsL xs)) (hn : n ≤ 1000) (hG : GOk w) (hm : itsMay xs = true) (hv : evMay e = true) (hr1 : 1 ≤ room) (hr2 : room ≤ 64) (hrm : room - xs.length < 2) :
    Calls Tryd.prog 27 #[.agg #[.slice A n c, .bool true], .int .i64 room, .agg (evL e).toArray] w (GivesU w (xs, true, 0)) := by
  have hC := hid (fun W h k => check_lit 0 A n c true xs ho (by rw [hm]; rfl) W h k)
  have hV := hid (fun W => event_lit true e he hv W)
  have hl := rd_len ho hr
  have hn64 := itsMay_len hm
  have hn64 : (n : Int) ≤ 64 := by omega
  have hl : (xs.length : Int) = n := by omega
  have HO := hid ho
  have hrn : room - n < 2 := by omega
  have hq1 : ¬ room < 1 := by omega
  have hq2 : ¬ 64 < room := by omega
  clear hl hrm
  have hT := hid (fun W (h : Rd W 0 101 A n (itsL xs)) => twin_any A n c true xs ho W h hn)
  have ox : ItOk (false, e) := he
  have hszE := ev_sizeA e he
  have hBI := hid (fun W => item_built e he W)
  have hsX := it_sizeA zeroIt zeroIt_ok
  have hXZ : (itL (false, e)).toArray.size = (itL zeroIt).toArray.size := by rw [List.size_toArray, List.size_toArray, itL_len _ ox, itL_len zeroIt zeroIt_ok]
  have hXs := it_sizeA (false, e) ox
  have honeX := hid (it_one (false, e))
  have hzr : Hid (∀ W, (zeroValue 36).run Tryd.prog W = .ok (.agg (itL zeroIt).toArray) W) := hid zeroI_run
  have HR := hid hr
  have HG := hid hG
  clear hr hG
  generalize hZL : (itL zeroIt).toArray = Z at *
  clear hZL
  generalize hXL : (itL (false, e)).toArray = X at *
  have HXL := hid hXL
  clear hXL
  generalize hEL : (evL e).toArray = E at *
  clear hEL
  go_enter Tryd.func27, Tryd.ntmps27
  go_upto_region 1 with (first
    | (refine wpList_bx rfl 47 _ rfl #[.slice A n c, .bool true] rfl ?_; intro w1 hB1 hb1 hy; have hz1 := hid hy; clear hy)
    | (refine wpList_bx rfl 34 _ rfl E rfl ?_; intro w2 hB2 hb2 hy; have hz2 := hid hy; clear hy)
    | ((with_reducible refine at_alloc 47 ?_); refine wpList_al rfl 47 rfl _ (tap_zero _) ?_; intro w3 hB3 hb3 hy; have hz3 := hid hy; clear hy))
  have X0 := hid (below_chain (below_chain hb1 hb2) hb3)
  have X1 := hid ((hB1.belowS hb2).belowS hb3)
  have X2 := hid (hB2.belowS hb3)
  have X3 := hid hB3
  have l1 := (hB1.belowS hb2).lt
  have l2 := (hB2.belowS hb3).lt
  have l3 := hB2.lt
  have l4 := hB3.lt
  have e1 : w.heap.size < w1.heap.size := by have := hz1.out; omega
  clear hB1 hb1 hz1 hB2 hb2 hz2 hB3 hb3 hz3
  generalize w1.heap.size = g2 at *
  generalize w2.heap.size = g3 at *
  obtain ⟨a0, a1, a2, a3⟩ := two_facts X1.out
  go_upto_region 3 with (first
    | ((with_reducible refine at_load 34 ?_); refine wpList_ldr rfl 34 _ rfl g2 rfl _ E _ X2.out Tryd.underlying34 rfl hszE ?_)
    | ((with_reducible refine at_build 36 ?_); refine wpList_b1 rfl 36 1 _ rfl (.agg E) rfl X (hBI.out _) ?_)
    | ((with_reducible refine at_alloc 36 ?_); refine wpList_al rfl 36 rfl _ (hzr.out _) ?_; intro w4 hB4 hb4 hy; have hz4 := hid hy; clear hy)
    | ((with_reducible refine at_store 36 ?_); refine wpList_str rfl 36 _ _ rfl w3.heap.size X rfl rfl _ _ hB4 hXZ hsX honeX.out ?_; intro w5 hB5 hg5 hy; clear hy))
  have hb35 := hb4.grown hg5 hb4.size (by intro k e; cases e; exact Nat.le_refl _)
  have X0 := hid (below_chain X0.out hb35)
  have X1 := hid (X1.out.belowS hb35)
  have X2 := hid (X2.out.belowS hb35)
  have X3 := hid (X3.out.belowS hb35)
  have X4 := hid hB5
  have l5 := hB5.lt
  clear hB4 hb4 hz4 hB5 hg5 hb35 a0 a1 a2 a3
  generalize w3.heap.size = g4 at *
  obtain ⟨a0, a1, a2, a3⟩ := two_facts X1.out
  go_upto_region 11 with (first
    | ((with_reducible refine (hC.out _ (HR.out.below X0.out) (HG.out.below X0.out)).mono ?_); rintro e w6 ⟨rfl, hb6⟩; clear a0 a1 a2 a3; obtain ⟨a0, a1, a2, a3⟩ := two_facts (X1.out.belowS hb6))
    | ((with_reducible refine at_load 34 ?_); refine wpList_ldr_g (by kernel_rfl) 34 _ rfl g2 rfl _ E _ (X2.out.belowS hb6) Tryd.underlying34 rfl hszE ?_)
    | ((with_reducible refine (hV.out _).mono ?_); rintro e w7 ⟨rfl, hb7⟩; clear a0 a1 a2 a3; obtain ⟨a0, a1, a2, a3⟩ := two_facts ((X1.out.belowS hb6).belowS hb7)))
  have X0 := hid (below_chain (below_chain X0.out hb6) hb7)
  have X1 := hid ((X1.out.belowS hb6).belowS hb7)
  have X2 := hid ((X2.out.belowS hb6).belowS hb7)
  have X3 := hid ((X3.out.belowS hb6).belowS hb7)
  have X4 := hid ((X4.out.belowS hb6).belowS hb7)
  have HR := hid (HR.out.below X0.out)
  have HG := hid (HG.out.below X0.out)
  have l6 := hb6.size
  have l7 := hb7.size
  have lX := X4.out.lt
  clear hb6 hb7
  go_upto_region 13 with (first
    | ((with_reducible refine (hT.out _ HR.out).mono ?_); rintro e w8 ⟨D, k, rfl, hO, hb8⟩)
    | ((with_reducible refine at_alloc 47 ?_); refine wpList_al rfl 47 rfl _ (tap_zero _) ?_; intro w9 hB9 hb9 hy; have hz9 := hid hy; clear hy)
    | ((with_reducible refine at_store 47 ?_); refine wpList_str rfl 47 _ _ rfl w8.heap.size _ rfl rfl _ _ hB9 rfl (tap_size _ _) (one_tap _ _ _ _) ?_; intro w10 hB10 hg10 hy; clear hy; obtain ⟨q0, q1, q2, q3⟩ := two_facts hB10))
  have l8 := hb8.size
  have l3' := X3.out.lt
  have B11 := hB10.set_ 1 (.bool true)
  have hg11 : w10.grownBy (w10.setCell ⟨w8.heap.size, 1, none⟩ (.bool true)) (some w8.heap.size) := grown_set (World.grownBy.refl w10 _) (.inl rfl) _
  have Y3 := (((((X3.out.belowS hb8).belowS hb9).grown hg10 (by simp; omega)).grown hg11 (by simp; omega)))
  have hb81 := below_chain X0.out (hb8)
  have l9 := hb9.size
  have hO11 : Own (w10.setCell ⟨w8.heap.size, 1, none⟩ (.bool true)) w7.heap.size 36 101 D xs.length k (itsL xs) := hO.keep (fun b hl _ => by
    have e1 := hb9.block b hl
    have e2 := hg10.block b (by omega) (fun e => by have := Option.some.inj e; omega)
    have e3 := hg11.block b (by have := hg10.size; omega) (fun e => by have := Option.some.inj e; omega)
    exact e3.trans (e2.trans e1))
  have hb8F := below_set (below_set (below_chain (below_chain X0.out hb8) hb9) hg10 (by omega)) hg11 (by omega)
  have hl11 : w8.heap.size < (w10.setCell ⟨w8.heap.size, 1, none⟩ (.bool true)).heap.size := B11.lt
  have B11 : Blk (w10.setCell ⟨w8.heap.size, 1, none⟩ (.bool true)) w8.heap.size 47 #[.slice D n k, .bool true] := B11
  clear hO hB10 hg10 hg11 hB9 hb9 hb8 q0 q1 q2 q3
  generalize w10.setCell ⟨w8.heap.size, 1, none⟩ (.bool true) = w11 at *
  obtain ⟨q0, q1, q2, q3⟩ := two_facts B11
  clear q2 q3
  go_wp2_with ((with_reducible refine at_store 47 ?_); refine wpList_str rfl 47 _ _ rfl g3 _ rfl rfl _ _ Y3 rfl (tap_size _ _) (one_tap _ _ _ _) ?_; intro w12 hB12 hg12 hy; clear hy; obtain ⟨z0, z1, z2, z3⟩ := two_facts hB12)
  have hFf := (hO11.fr.chg (by omega) (Chg.of_grown hg12) (fun b hb e => by have := Option.some.inj e; omega)).low (lo' := w.heap.size) (by omega)
  have hbf := below_set hb8F hg12 (by omega)
  exact bodyPost_ret (v := .tuple #[.agg #[.slice D n k, .bool true], .int .i64 0]) (by simp [results, Tryd.f27, go_sem, z0, z1]) rfl ⟨D, n, k, rfl, hl ▸ hFf, hbf⟩

set_option maxRecDepth 100000 in
set_option maxHeartbeats 4000000 in
theorem push_full (A : Option Addr) (n c : Nat)  (xs : List It) (ho : ItsOk xs) (room : Int) (e : Ev) (he : HdOk e.2.2) (w : World) (hr : Rd w 0 101 A n (itsL xs)) (hn : n ≤ 1000) (hG : GOk w) (hm : itsMay xs = true) (hv : evMay e = true) (hr1 : 1 ≤ room) (hr2 : room ≤ 64) (hrm : room - xs.length < 1) :
    Calls Tryd.prog 27 #[.agg #[.slice A n c, .bool false], .int .i64 room, .agg (evL e).toArray] w (GivesU w (xs, true, 0)) := by
  have hC := hid (fun W h k => check_lit 0 A n c false xs ho (by rw [hm]; rfl) W h k)
  have hV := hid (fun W => event_lit true e he hv W)
  have hl := rd_len ho hr
  have hn64 := itsMay_len hm
  have hn64 : (n : Int) ≤ 64 := by omega
  have hl : (xs.length : Int) = n := by omega
  have HO := hid ho
  have hrn : room - n < 1 := by omega
  have hq1 : ¬ room < 1 := by omega
  have hq2 : ¬ 64 < room := by omega
  clear hl hrm
  have hT := hid (fun W (h : Rd W 0 101 A n (itsL xs)) => twin_any A n c false xs ho W h hn)
  have ox : ItOk (false, e) := he
  have hszE := ev_sizeA e he
  have hBI := hid (fun W => item_built e he W)
  have hsX := it_sizeA zeroIt zeroIt_ok
  have hXZ : (itL (false, e)).toArray.size = (itL zeroIt).toArray.size := by rw [List.size_toArray, List.size_toArray, itL_len _ ox, itL_len zeroIt zeroIt_ok]
  have hXs := it_sizeA (false, e) ox
  have honeX := hid (it_one (false, e))
  have hzr : Hid (∀ W, (zeroValue 36).run Tryd.prog W = .ok (.agg (itL zeroIt).toArray) W) := hid zeroI_run
  have HR := hid hr
  have HG := hid hG
  clear hr hG
  generalize hZL : (itL zeroIt).toArray = Z at *
  clear hZL
  generalize hXL : (itL (false, e)).toArray = X at *
  have HXL := hid hXL
  clear hXL
  generalize hEL : (evL e).toArray = E at *
  clear hEL
  go_enter Tryd.func27, Tryd.ntmps27
  go_upto_region 1 with (first
    | (refine wpList_bx rfl 47 _ rfl #[.slice A n c, .bool false] rfl ?_; intro w1 hB1 hb1 hy; have hz1 := hid hy; clear hy)
    | (refine wpList_bx rfl 34 _ rfl E rfl ?_; intro w2 hB2 hb2 hy; have hz2 := hid hy; clear hy)
    | ((with_reducible refine at_alloc 47 ?_); refine wpList_al rfl 47 rfl _ (tap_zero _) ?_; intro w3 hB3 hb3 hy; have hz3 := hid hy; clear hy))
  have X0 := hid (below_chain (below_chain hb1 hb2) hb3)
  have X1 := hid ((hB1.belowS hb2).belowS hb3)
  have X2 := hid (hB2.belowS hb3)
  have X3 := hid hB3
  have l1 := (hB1.belowS hb2).lt
  have l2 := (hB2.belowS hb3).lt
  have l3 := hB2.lt
  have l4 := hB3.lt
  have e1 : w.heap.size < w1.heap.size := by have := hz1.out; omega
  clear hB1 hb1 hz1 hB2 hb2 hz2 hB3 hb3 hz3
  generalize w1.heap.size = g2 at *
  generalize w2.heap.size = g3 at *
  obtain ⟨a0, a1, a2, a3⟩ := two_facts X1.out
  go_upto_region 3 with (first
    | ((with_reducible refine at_load 34 ?_); refine wpList_ldr rfl 34 _ rfl g2 rfl _ E _ X2.out Tryd.underlying34 rfl hszE ?_)
    | ((with_reducible refine at_build 36 ?_); refine wpList_b1 rfl 36 1 _ rfl (.agg E) rfl X (hBI.out _) ?_)
    | ((with_reducible refine at_alloc 36 ?_); refine wpList_al rfl 36 rfl _ (hzr.out _) ?_; intro w4 hB4 hb4 hy; have hz4 := hid hy; clear hy)
    | ((with_reducible refine at_store 36 ?_); refine wpList_str rfl 36 _ _ rfl w3.heap.size X rfl rfl _ _ hB4 hXZ hsX honeX.out ?_; intro w5 hB5 hg5 hy; clear hy))
  have hb35 := hb4.grown hg5 hb4.size (by intro k e; cases e; exact Nat.le_refl _)
  have X0 := hid (below_chain X0.out hb35)
  have X1 := hid (X1.out.belowS hb35)
  have X2 := hid (X2.out.belowS hb35)
  have X3 := hid (X3.out.belowS hb35)
  have X4 := hid hB5
  have l5 := hB5.lt
  clear hB4 hb4 hz4 hB5 hg5 hb35 a0 a1 a2 a3
  generalize w3.heap.size = g4 at *
  obtain ⟨a0, a1, a2, a3⟩ := two_facts X1.out
  go_upto_region 11 with (first
    | ((with_reducible refine (hC.out _ (HR.out.below X0.out) (HG.out.below X0.out)).mono ?_); rintro e w6 ⟨rfl, hb6⟩; clear a0 a1 a2 a3; obtain ⟨a0, a1, a2, a3⟩ := two_facts (X1.out.belowS hb6))
    | ((with_reducible refine at_load 34 ?_); refine wpList_ldr_g (by kernel_rfl) 34 _ rfl g2 rfl _ E _ (X2.out.belowS hb6) Tryd.underlying34 rfl hszE ?_)
    | ((with_reducible refine (hV.out _).mono ?_); rintro e w7 ⟨rfl, hb7⟩; clear a0 a1 a2 a3; obtain ⟨a0, a1, a2, a3⟩ := two_facts ((X1.out.belowS hb6).belowS hb7)))
  have X0 := hid (below_chain (below_chain X0.out hb6) hb7)
  have X1 := hid ((X1.out.belowS hb6).belowS hb7)
  have X2 := hid ((X2.out.belowS hb6).belowS hb7)
  have X3 := hid ((X3.out.belowS hb6).belowS hb7)
  have X4 := hid ((X4.out.belowS hb6).belowS hb7)
  have HR := hid (HR.out.below X0.out)
  have HG := hid (HG.out.below X0.out)
  have l6 := hb6.size
  have l7 := hb7.size
  have lX := X4.out.lt
  clear hb6 hb7
  go_upto_region 13 with (first
    | ((with_reducible refine (hT.out _ HR.out).mono ?_); rintro e w8 ⟨D, k, rfl, hO, hb8⟩)
    | ((with_reducible refine at_alloc 47 ?_); refine wpList_al rfl 47 rfl _ (tap_zero _) ?_; intro w9 hB9 hb9 hy; have hz9 := hid hy; clear hy)
    | ((with_reducible refine at_store 47 ?_); refine wpList_str rfl 47 _ _ rfl w8.heap.size _ rfl rfl _ _ hB9 rfl (tap_size _ _) (one_tap _ _ _ _) ?_; intro w10 hB10 hg10 hy; clear hy; obtain ⟨q0, q1, q2, q3⟩ := two_facts hB10))
  have l8 := hb8.size
  have l3' := X3.out.lt
  have B11 := hB10.set_ 1 (.bool true)
  have hg11 : w10.grownBy (w10.setCell ⟨w8.heap.size, 1, none⟩ (.bool true)) (some w8.heap.size) := grown_set (World.grownBy.refl w10 _) (.inl rfl) _
  have Y3 := (((((X3.out.belowS hb8).belowS hb9).grown hg10 (by simp; omega)).grown hg11 (by simp; omega)))
  have hb81 := below_chain X0.out (hb8)
  have l9 := hb9.size
  have hO11 : Own (w10.setCell ⟨w8.heap.size, 1, none⟩ (.bool true)) w7.heap.size 36 101 D xs.length k (itsL xs) := hO.keep (fun b hl _ => by
    have e1 := hb9.block b hl
    have e2 := hg10.block b (by omega) (fun e => by have := Option.some.inj e; omega)
    have e3 := hg11.block b (by have := hg10.size; omega) (fun e => by have := Option.some.inj e; omega)
    exact e3.trans (e2.trans e1))
  have hb8F := below_set (below_set (below_chain (below_chain X0.out hb8) hb9) hg10 (by omega)) hg11 (by omega)
  have hl11 : w8.heap.size < (w10.setCell ⟨w8.heap.size, 1, none⟩ (.bool true)).heap.size := B11.lt
  have B11 : Blk (w10.setCell ⟨w8.heap.size, 1, none⟩ (.bool true)) w8.heap.size 47 #[.slice D n k, .bool true] := B11
  clear hO hB10 hg10 hg11 hB9 hb9 hb8 q0 q1 q2 q3
  generalize w10.setCell ⟨w8.heap.size, 1, none⟩ (.bool true) = w11 at *
  obtain ⟨q0, q1, q2, q3⟩ := two_facts B11
  clear q2 q3
  go_wp2_with ((with_reducible refine at_store 47 ?_); refine wpList_str rfl 47 _ _ rfl g3 _ rfl rfl _ _ Y3 rfl (tap_size _ _) (one_tap _ _ _ _) ?_; intro w12 hB12 hg12 hy; clear hy; obtain ⟨z0, z1, z2, z3⟩ := two_facts hB12)
  have hFf := (hO11.fr.chg (by omega) (Chg.of_grown hg12) (fun b hb e => by have := Option.some.inj e; omega)).low (lo' := w.heap.size) (by omega)
  have hbf := below_set hb8F hg12 (by omega)
  exact bodyPost_ret (v := .tuple #[.agg #[.slice D n k, .bool true], .int .i64 0]) (by simp [results, Tryd.f27, go_sem, z0, z1]) rfl ⟨D, n, k, rfl, hl ▸ hFf, hbf⟩

theorem push_any (A : Option Addr) (n c : Nat) (lost : Bool) (xs : List It) (ho : ItsOk xs) (room : Int) (e : Ev) (he : HdOk e.2.2) (w : World) (hr : Rd w 0 101 A n (itsL xs)) (hn : n ≤ 1000) (hG : GOk w) :
    Calls Tryd.prog 27 #[.agg #[.slice A n c, .bool lost], .int .i64 room, .agg (evL e).toArray] w (GivesU w (pushT xs lost room e)) := by
  unfold pushT
  cases hm : itsMay xs with
  | false => exact push_bad A n c lost xs ho room e he w hr hn hG hm
  | true =>
    cases hv : evMay e with
    | false => exact push_ev A n c lost xs ho room e he w hr hn hG hm hv
    | true =>
      rw [if_pos (show (true && true) = true from rfl)]
      by_cases h1 : room < 1
      · rw [if_neg (by omega)]
        exact push_small A n c lost xs ho room e he w hr hn hG hm hv h1
      by_cases h2 : 64 < room
      · rw [if_neg (by omega)]
        exact push_large A n c lost xs ho room e he w hr hn hG hm hv (by omega) h2
      rw [if_pos (by omega)]
      cases lost
      · rw [if_neg (by simp)]
        by_cases h3 : 1 ≤ room - xs.length
        · rw [if_pos h3]
          exact push_one A n c xs ho room e he w hr hn hG hm hv (by omega) (by omega) h3
        · rw [if_neg h3]
          exact push_full A n c xs ho room e he w hr hn hG hm hv (by omega) (by omega) (by omega)
      · rw [if_pos (show (true = true) from rfl)]
        by_cases h3 : 2 ≤ room - xs.length
        · rw [if_pos h3]
          exact push_gap A n c xs ho room e he w hr hn hG hm hv (by omega) (by omega) h3
        · rw [if_neg h3]
          exact push_keep A n c xs ho room e he w hr hn hG hm hv (by omega) (by omega) (by omega)
end Go.Proofs.YtmepbokoopgmiaaDoor
