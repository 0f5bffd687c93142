/-
  Contracts of header.Check and tap.event. No condition beyond those each theorem names.
-/
import Derived.Test.YtmepbokoopgmiaaDoorItem
namespace Go.Proofs.YtmepbokoopgmiaaDoor
open Go.RowKit

set_option maxHeartbeats 1000000 in
theorem hdCheck_a (h : Int) (m : Int) (C : Array Value) (w : World) (c0 : C[0]? = some (.int .i64 h)) (c97 : C[97]? = some (.int .i64 m)) (h1 : h < 0) :
    Calls Tryd.prog 55 #[.agg C] w fun e w' => e = .returned (.int .i64 8) ∧ Below w.heap.size w w' := by
  go_enter Tryd.func55, Tryd.ntmps55
  go_wp2_with (refine wpList_bx rfl 32 _ rfl C rfl ?_; intro w1 hB1 hb1 hz1; have d0 := hB1.cellv c0; have d97 := hB1.cellv c97)
  go_ret
  exact ⟨rfl, hb1⟩
set_option maxHeartbeats 1000000 in
theorem hdCheck_b (h : Int) (m : Int) (C : Array Value) (w : World) (c0 : C[0]? = some (.int .i64 h)) (c97 : C[97]? = some (.int .i64 m)) (h1 : 0 ≤ h) (h2 : 1073741824 < h) :
    Calls Tryd.prog 55 #[.agg C] w fun e w' => e = .returned (.int .i64 8) ∧ Below w.heap.size w w' := by
  go_enter Tryd.func55, Tryd.ntmps55
  go_wp2_with (refine wpList_bx rfl 32 _ rfl C rfl ?_; intro w1 hB1 hb1 hz1; have d0 := hB1.cellv c0; have d97 := hB1.cellv c97)
  go_ret
  exact ⟨rfl, hb1⟩
set_option maxHeartbeats 1000000 in
theorem hdCheck_c (h : Int) (m : Int) (C : Array Value) (w : World) (c0 : C[0]? = some (.int .i64 h)) (c97 : C[97]? = some (.int .i64 m)) (h1 : 0 ≤ h) (h2 : h ≤ 1073741824) (h3 : m < 0) :
    Calls Tryd.prog 55 #[.agg C] w fun e w' => e = .returned (.int .i64 8) ∧ Below w.heap.size w w' := by
  go_enter Tryd.func55, Tryd.ntmps55
  go_wp2_with (refine wpList_bx rfl 32 _ rfl C rfl ?_; intro w1 hB1 hb1 hz1; have d0 := hB1.cellv c0; have d97 := hB1.cellv c97)
  go_ret
  exact ⟨rfl, hb1⟩
set_option maxHeartbeats 1000000 in
theorem hdCheck_d (h : Int) (m : Int) (C : Array Value) (w : World) (c0 : C[0]? = some (.int .i64 h)) (c97 : C[97]? = some (.int .i64 m)) (h1 : 0 ≤ h) (h2 : h ≤ 1073741824) (h3 : 0 ≤ m) (h4 : 256 < m) :
    Calls Tryd.prog 55 #[.agg C] w fun e w' => e = .returned (.int .i64 8) ∧ Below w.heap.size w w' := by
  go_enter Tryd.func55, Tryd.ntmps55
  go_wp2_with (refine wpList_bx rfl 32 _ rfl C rfl ?_; intro w1 hB1 hb1 hz1; have d0 := hB1.cellv c0; have d97 := hB1.cellv c97)
  go_ret
  exact ⟨rfl, hb1⟩
set_option maxHeartbeats 1000000 in
theorem hdCheck_e (h : Int) (m : Int) (C : Array Value) (w : World) (c0 : C[0]? = some (.int .i64 h)) (c97 : C[97]? = some (.int .i64 m)) (h1 : 0 ≤ h) (h2 : h ≤ 1073741824) (h3 : 0 ≤ m) (h4 : m ≤ 256) :
    Calls Tryd.prog 55 #[.agg C] w fun e w' => e = .returned (.int .i64 0) ∧ Below w.heap.size w w' := by
  go_enter Tryd.func55, Tryd.ntmps55
  go_wp2_with (refine wpList_bx rfl 32 _ rfl C rfl ?_; intro w1 hB1 hb1 hz1; have d0 := hB1.cellv c0; have d97 := hB1.cellv c97)
  go_ret
  exact ⟨rfl, hb1⟩
/-- May a header be? -/
def hdMay (h : Hd) : Bool := decide (0 ≤ h.1) && (decide (h.1 ≤ 1073741824) && (decide (0 ≤ h.2.2.2.2) && decide (h.2.2.2.2 ≤ 256)))
theorem hdL_at97 (h : Hd) (ho : HdOk h) : (hdL h)[97]? = some (.int .i64 h.2.2.2.2) := by
  obtain ⟨a, b, c, d, e⟩ := h
  obtain ⟨h1, h2, h3⟩ := ho
  simp only at h1 h2 h3
  show (.int .i64 a :: (b.map bv ++ (c.map bv ++ (d.map bv ++ [.int .i64 e]))))[97]? = _
  rw [List.getElem?_cons_succ, List.getElem?_append_right (by simp [h1]), List.getElem?_append_right (by simp [h1, h2]), List.getElem?_append_right (by simp [h1, h2, h3])]
  simp [h1, h2, h3]
/-- The error of a bool. -/
def errOf (b : Bool) : Int := if b then 0 else 8
theorem hdCheck_any (h : Hd) (ho : HdOk h) (w : World) :
    Calls Tryd.prog 55 #[.agg (hdL h).toArray] w fun e w' => e = .returned (.int .i64 (errOf (hdMay h))) ∧ Below w.heap.size w w' := by
  have c97 : (hdL h).toArray[97]? = some (.int .i64 h.2.2.2.2) := by simpa using hdL_at97 h ho
  have c0 : (hdL h).toArray[0]? = some (.int .i64 h.1) := rfl
  unfold hdMay errOf
  by_cases h1 : h.1 < 0
  · rw [show decide (0 ≤ h.1) = false by simpa using h1]
    exact hdCheck_a _ _ _ w c0 c97 h1
  rw [show decide (0 ≤ h.1) = true by simpa using h1]
  by_cases h2 : 1073741824 < h.1
  · rw [show decide (h.1 ≤ 1073741824) = false by simpa using h2]
    exact hdCheck_b _ _ _ w c0 c97 (by omega) h2
  rw [show decide (h.1 ≤ 1073741824) = true by simpa using h2]
  by_cases h3 : h.2.2.2.2 < 0
  · rw [show decide (0 ≤ h.2.2.2.2) = false by simpa using h3]
    exact hdCheck_c _ _ _ w c0 c97 (by omega) (by omega) h3
  rw [show decide (0 ≤ h.2.2.2.2) = true by simpa using h3]
  by_cases h4 : 256 < h.2.2.2.2
  · rw [show decide (h.2.2.2.2 ≤ 256) = false by simpa using h4]
    exact hdCheck_d _ _ _ w c0 c97 (by omega) (by omega) (by omega) h4
  rw [show decide (h.2.2.2.2 ≤ 256) = true by simpa using h4]
  exact hdCheck_e _ _ _ w c0 c97 (by omega) (by omega) (by omega) (by omega)

theorem Blk.range_from {w : World} {g : Nat} {t : TypeId} {cs : Array Value} (h : Blk w g t cs) (o : Nat) (l : List Value) (hl : ∀ j, j < l.length → cs[o + j]? = l[j]?) : w.rangeAt g o l := fun j v hv => by
  have hj : j < l.length := (List.getElem?_eq_some_iff.1 hv).1
  exact (h.cell (o + j)).trans ((hl j hj).trans hv)
section
variable {P : Program}
/-- A part of a row read, at a guarded operation. -/
theorem wpList_ldm_g {ops : Array Oper} {rest : List Oper} {o : Oper} {a : Act} {w : World} {Q : Exit → Act → World → Prop} (hgd : Region.wanted o (yielded ops a.tmps) = true) (ty : TypeId) (x : Operand) (ho : o.op = .load ty x)
    (b k : Nat) (hx : a.eval x = .pointer (some ⟨b, k, none⟩)) (cs : List Value) (d : TypeDesc) (hc : w.rangeAt b k cs)
    (hu : P.underlying ty = some d) (hd : d.isRow = true) (hi : (P.info? ty).map (·.size) = some cs.length)
    (h : wpList P ops Q rest (a.put o.dst (.agg cs.toArray)) w) : wpList P ops Q (o :: rest) a w := by
  refine wpList_step fun K hK => ?_
  rw [if_pos hgd]
  exact wp_load_mid ty x ho b k hx cs d hc hu hd hi (hK _ _ h)
end
/-- May an event be? -/
def evMay (e : Ev) : Bool := decide (0 ≤ e.1) && (decide (e.1 < 1073741824) && hdMay e.2.2)
theorem hd_size (h : Hd) (ho : HdOk h) : (Tryd.prog.info? 32).map (·.size) = some (hdL h).length := by rw [hdL_len h ho]; kernel_rfl
theorem ev_size (e : Ev) (ho : HdOk e.2.2) : (Tryd.prog.info? 34).map (·.size) = some (evL e).length := by rw [evL_len e ho]; kernel_rfl
theorem it_size (x : It) (ho : ItOk x) : (Tryd.prog.info? 36).map (·.size) = some (itL x).length := by rw [itL_len x ho]; kernel_rfl
theorem it_sizeA (x : It) (ho : ItOk x) : (Tryd.prog.info? 36).map (·.size) = some (itL x).toArray.size := by rw [List.size_toArray]; exact it_size x ho

set_option maxHeartbeats 1000000 in
theorem event_low (n : Int) (C : Array Value) (w : World) (c0 : C[0]? = some (.int .i64 n)) (h1 : n < 0 ∨ 1073741824 ≤ n) :
    Calls Tryd.prog 48 #[.agg C] w fun e w' => e = .returned (.bool false) ∧ Below w.heap.size w w' := by
  rcases h1 with h1 | h1
  · go_enter Tryd.func48, Tryd.ntmps48
    go_wp2_with (refine wpList_bx rfl 34 _ rfl C rfl ?_; intro w1 hB1 hb1 hz1; have d0 := hB1.cellv c0)
    go_ret
    exact ⟨rfl, hb1⟩
  · have h2 : 0 ≤ n := by omega
    go_enter Tryd.func48, Tryd.ntmps48
    go_wp2_with (refine wpList_bx rfl 34 _ rfl C rfl ?_; intro w1 hB1 hb1 hz1; have d0 := hB1.cellv c0)
    go_ret
    exact ⟨rfl, hb1⟩
set_option maxHeartbeats 1000000 in
theorem event_mid (n : Int) (h : Hd) (C : Array Value) (w : World) (c0 : C[0]? = some (.int .i64 n)) (cr : ∀ j, j < (hdL h).length → C[2 + j]? = (hdL h)[j]?) (ho : HdOk h) (h1 : 0 ≤ n) (h2 : n < 1073741824) (q : Bool) (hq : hdMay h = q) :
    Calls Tryd.prog 48 #[.agg C] w fun e w' => e = .returned (.bool q) ∧ Below w.heap.size w w' := by
  have hcall := hid (fun W => hdCheck_any h ho W)
  rw [hq] at hcall
  have hsz := hd_size h ho
  have hcr := hid cr
  clear cr hq
  generalize hdL h = L at *
  cases q
  all_goals
    go_enter Tryd.func48, Tryd.ntmps48
    go_wp2_with (first
      | (refine wpList_bx rfl 34 _ rfl C rfl ?_; intro w1 hB1 hb1 hz1; have d0 := hB1.cellv c0; have dr := hB1.range_from 2 L hcr.out)
      | (refine wpList_ldm_g (by rfl) 32 _ rfl w.heap.size 2 rfl L _ dr Tryd.underlying32 rfl hsz ?_)
      | ((with_reducible refine (hcall.out _).mono ?_); rintro e w2 ⟨rfl, hb2⟩; simp only [errOf]))
    go_ret
    exact ⟨rfl, hb1.trans (hb2.mono hb1.size)⟩
theorem event_any (e : Ev) (ho : HdOk e.2.2) (w : World) :
    Calls Tryd.prog 48 #[.agg (evL e).toArray] w fun e' w' => e' = .returned (.bool (evMay e)) ∧ Below w.heap.size w w' := by
  obtain ⟨n, r, h⟩ := e
  unfold evMay
  simp only at ho ⊢
  by_cases h1 : n < 0 ∨ 1073741824 ≤ n
  · have : (decide (0 ≤ n) && (decide (n < 1073741824) && hdMay h)) = false := by
      rcases h1 with h1 | h1
      · rw [show decide (0 ≤ n) = false by simpa using h1]; rfl
      · rw [show decide (n < 1073741824) = false by simpa using h1]; simp
    rw [this]
    exact event_low n _ w rfl h1
  · rw [show decide (0 ≤ n) = true by simp; omega, show decide (n < 1073741824) = true by simp; omega]
    simp only [Bool.true_and]
    refine event_mid n h _ w rfl (fun j hj => ?_) ho (by omega) (by omega) _ rfl
    show (evL (n, r, h)).toArray[2 + j]? = _
    rw [List.getElem?_toArray, show 2 + j = j + 1 + 1 by omega]
    simp [evL]
end Go.Proofs.YtmepbokoopgmiaaDoor
