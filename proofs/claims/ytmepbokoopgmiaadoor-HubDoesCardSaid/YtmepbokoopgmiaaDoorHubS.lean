/-
  Contracts of the references' May of a header, Event, May and Twin of a tap. No condition beyond those each theorem names.
-/
import Derived.Test.YtmepbokoopgmiaaDoorHubL
namespace Go.Proofs.YtmepbokoopgmiaaDoor
open Go.RowKit
set_option linter.unusedSimpArgs false
set_option linter.unusedVariables false

set_option maxHeartbeats 1000000 in
theorem hd14_a (h : Int) (m : Int) (C : Array Value) (w : World) (c0 : C[0]? = some (.int .i64 h)) (c97 : C[97]? = some (.int .i64 m)) (h1 : h < 0) :
    Calls Tryd.prog 51 #[.agg C] w (GivesB w false) := by
  skip
  go_enter Tryd.func51, Tryd.ntmps51
  go_wp2_with (refine wpList_bx rfl 32 _ rfl C rfl ?_; intro w1 hB1 hb1 hz1; have d0 := hB1.cellv c0; have d97 := hB1.cellv c97)
  go_ret
  exact ⟨rfl, hb1⟩

set_option maxHeartbeats 1000000 in
theorem hd14_b (h : Int) (m : Int) (C : Array Value) (w : World) (c0 : C[0]? = some (.int .i64 h)) (c97 : C[97]? = some (.int .i64 m)) (h1 : 0 ≤ h) (h2 : 1073741824 < h) :
    Calls Tryd.prog 51 #[.agg C] w (GivesB w false) := by
  skip
  go_enter Tryd.func51, Tryd.ntmps51
  go_wp2_with (refine wpList_bx rfl 32 _ rfl C rfl ?_; intro w1 hB1 hb1 hz1; have d0 := hB1.cellv c0; have d97 := hB1.cellv c97)
  go_ret
  exact ⟨rfl, hb1⟩

set_option maxHeartbeats 1000000 in
theorem hd14_c (h : Int) (m : Int) (C : Array Value) (w : World) (c0 : C[0]? = some (.int .i64 h)) (c97 : C[97]? = some (.int .i64 m)) (h1 : 0 ≤ h) (h2 : h ≤ 1073741824) (h3 : m < 0) :
    Calls Tryd.prog 51 #[.agg C] w (GivesB w false) := by
  skip
  go_enter Tryd.func51, Tryd.ntmps51
  go_wp2_with (refine wpList_bx rfl 32 _ rfl C rfl ?_; intro w1 hB1 hb1 hz1; have d0 := hB1.cellv c0; have d97 := hB1.cellv c97)
  go_ret
  exact ⟨rfl, hb1⟩

set_option maxHeartbeats 1000000 in
theorem hd14_d (h : Int) (m : Int) (C : Array Value) (w : World) (c0 : C[0]? = some (.int .i64 h)) (c97 : C[97]? = some (.int .i64 m)) (h1 : 0 ≤ h) (h2 : h ≤ 1073741824) (h3 : 0 ≤ m) (h4 : 256 < m) :
    Calls Tryd.prog 51 #[.agg C] w (GivesB w false) := by
  have hd5 : decide (m ≤ 256) = false := decide_eq_false (by omega)
  go_enter Tryd.func51, Tryd.ntmps51
  go_wp2_with (refine wpList_bx rfl 32 _ rfl C rfl ?_; intro w1 hB1 hb1 hz1; have d0 := hB1.cellv c0; have d97 := hB1.cellv c97)
  go_ret
  exact ⟨rfl, hb1⟩

set_option maxHeartbeats 1000000 in
theorem hd14_e (h : Int) (m : Int) (C : Array Value) (w : World) (c0 : C[0]? = some (.int .i64 h)) (c97 : C[97]? = some (.int .i64 m)) (h1 : 0 ≤ h) (h2 : h ≤ 1073741824) (h3 : 0 ≤ m) (h4 : m ≤ 256) :
    Calls Tryd.prog 51 #[.agg C] w (GivesB w true) := by
  skip
  go_enter Tryd.func51, Tryd.ntmps51
  go_wp2_with (refine wpList_bx rfl 32 _ rfl C rfl ?_; intro w1 hB1 hb1 hz1; have d0 := hB1.cellv c0; have d97 := hB1.cellv c97)
  go_ret
  exact ⟨rfl, hb1⟩

theorem hd14_any (h : Hd) (ho : HdOk h) (w : World) :
    Calls Tryd.prog 51 #[.agg (hdL h).toArray] w (GivesB w (hdMay h)) := by
  have c97 : (hdL h).toArray[97]? = some (.int .i64 h.2.2.2.2) := by simpa using hdL_at97 h ho
  have c0 : (hdL h).toArray[0]? = some (.int .i64 h.1) := rfl
  unfold hdMay
  by_cases h1 : h.1 < 0
  · rw [show decide (0 ≤ h.1) = false by simpa using h1]
    exact hd14_a _ _ _ w c0 c97 h1
  rw [show decide (0 ≤ h.1) = true by simpa using h1]
  by_cases h2 : 1073741824 < h.1
  · rw [show decide (h.1 ≤ 1073741824) = false by simpa using h2]
    exact hd14_b _ _ _ w c0 c97 (by omega) h2
  rw [show decide (h.1 ≤ 1073741824) = true by simpa using h2]
  by_cases h3 : h.2.2.2.2 < 0
  · rw [show decide (0 ≤ h.2.2.2.2) = false by simpa using h3]
    exact hd14_c _ _ _ w c0 c97 (by omega) (by omega) h3
  rw [show decide (0 ≤ h.2.2.2.2) = true by simpa using h3]
  by_cases h4 : 256 < h.2.2.2.2
  · rw [show decide (h.2.2.2.2 ≤ 256) = false by simpa using h4]
    exact hd14_d _ _ _ w c0 c97 (by omega) (by omega) (by omega) h4
  rw [show decide (h.2.2.2.2 ≤ 256) = true by simpa using h4]
  exact hd14_e _ _ _ w c0 c97 (by omega) (by omega) (by omega) (by omega)
set_option maxHeartbeats 1000000 in
theorem ev23_low (n : Int) (C : Array Value) (w : World) (c0 : C[0]? = some (.int .i64 n)) (h1 : n < 0 ∨ 1073741824 ≤ n) :
    Calls Tryd.prog 41 #[.agg C] w (GivesB w false) := by
  rcases h1 with h1 | h1
  · go_enter Tryd.func41, Tryd.ntmps41
    go_wp2_with (refine wpList_bx rfl 34 _ rfl C rfl ?_; intro w1 hB1 hb1 hz1; have d0 := hB1.cellv c0)
    go_ret
    exact ⟨rfl, hb1⟩
  · have h2 : 0 ≤ n := by omega
    go_enter Tryd.func41, Tryd.ntmps41
    go_wp2_with (refine wpList_bx rfl 34 _ rfl C rfl ?_; intro w1 hB1 hb1 hz1; have d0 := hB1.cellv c0)
    go_ret
    exact ⟨rfl, hb1⟩
set_option maxHeartbeats 1000000 in
theorem ev23_mid (n : Int) (h : Hd) (C : Array Value) (w : World) (c0 : C[0]? = some (.int .i64 n)) (cr : ∀ j, j < (hdL h).length → C[2 + j]? = (hdL h)[j]?) (ho : HdOk h) (h1 : 0 ≤ n) (h2 : n < 1073741824) (q : Bool) (hq : hdMay h = q) :
    Calls Tryd.prog 41 #[.agg C] w (GivesB w q) := by
  have hcall := hid (fun W => hd14_any h ho W)
  rw [hq] at hcall
  have hsz := hd_size h ho
  have hcr := hid cr
  clear cr hq
  generalize hdL h = L at *
  cases q
  all_goals
    go_enter Tryd.func41, Tryd.ntmps41
    go_wp2_with (first
      | (refine wpList_bx rfl 34 _ rfl C rfl ?_; intro w1 hB1 hb1 hz1; have d0 := hB1.cellv c0; have dr := hB1.range_from 2 L hcr.out)
      | ((with_reducible refine at_load 32 ?_); refine wpList_ldm_g (by rfl) 32 _ rfl w.heap.size 2 rfl L _ dr Tryd.underlying32 rfl hsz ?_)
      | ((with_reducible refine (hcall.out _).mono ?_); rintro e w2 ⟨rfl, hb2⟩))
    go_ret
    exact ⟨rfl, hb1.trans (hb2.mono hb1.size)⟩
theorem ev23_any (e : Ev) (ho : HdOk e.2.2) (w : World) :
    Calls Tryd.prog 41 #[.agg (evL e).toArray] w (GivesB w (evMay e)) := by
  obtain ⟨n, r, h⟩ := e
  unfold evMay
  simp only at ho ⊢
  by_cases h1 : n < 0 ∨ 1073741824 ≤ n
  · have : (decide (0 ≤ n) && (decide (n < 1073741824) && hdMay h)) = false := by
      rcases h1 with h1 | h1
      · rw [show decide (0 ≤ n) = false by simpa using h1]; rfl
      · rw [show decide (n < 1073741824) = false by simpa using h1]; simp
    rw [this]
    exact ev23_low n _ w rfl h1
  · rw [show decide (0 ≤ n) = true by simp; omega, show decide (n < 1073741824) = true by simp; omega]
    simp only [Bool.true_and]
    refine ev23_mid n h _ w rfl (fun j hj => ?_) ho (by omega) (by omega) _ rfl
    show (evL (n, r, h)).toArray[2 + j]? = _
    rw [List.getElem?_toArray, show 2 + j = j + 1 + 1 by omega]
    simp [evL]

set_option maxRecDepth 100000 in
set_option maxHeartbeats 1000000 in
theorem twin23_any (A : Option Addr) (n c : Nat) (lost : Bool) (xs : List It) (ho : ItsOk xs) (w : World) (hr : Rd w 0 101 A n (itsL xs)) (hn : n ≤ 1000) :
    Calls Tryd.prog 35 #[.agg #[.slice A n c, .bool lost]] w (GivesT w xs lost) := by
  obtain ⟨i0, hi0, hz0, hz1, hz2⟩ := info_parts item_info
  have HR := hid hr
  have hl := hid (rd_len ho hr)
  have HO := hid ho
  have hone := hid (itsL_one xs)
  have hTB := hid (fun W => (show (Instr.build 47 #[(1, .bool lost)]).run Tryd.prog W = .ok (.agg #[.slice none 0 0, .bool lost]) W from run_build W _ _ _ (by kernel_rfl)))
  clear hr ho
  go_enter Tryd.func35, Tryd.ntmps35
  go_upto_region 2 with (first
    | (refine wpList_bx rfl 47 _ rfl #[.slice A n c, .bool lost] rfl ?_; intro w1 hB1 hb1 hy; have hy1 := hid hy; clear hy; obtain ⟨a0, a1, a2, a3⟩ := two_facts hB1)
    | ((with_reducible refine at_alloc (d := some 2) 47 ?_); refine wpList_al rfl 47 rfl _ (tap_zero _) ?_; intro w2 hB2 hb2 hy; have hz2' := hid hy; clear hy; clear a0 a1 a2 a3; obtain ⟨a0, a1, a2, a3⟩ := two_facts (hB1.belowS hb2))
    | ((with_reducible refine at_build 47 ?_); refine wpList_b1 rfl 47 1 _ rfl (.bool lost) rfl _ (hTB.out _) ?_)
    | ((with_reducible refine at_alloc (d := some 3) 47 ?_); refine wpList_al rfl 47 rfl _ (tap_zero _) ?_; intro w3 hB3 hb3 hy; have hz3 := hid hy; clear hy)
    | ((with_reducible refine at_store 47 ?_); refine wpList_str rfl 47 _ _ rfl w2.heap.size _ rfl rfl _ _ hB3 rfl (tap_size _ _) (one_tap _ _ _ _) ?_; intro w4 hB4 hg4 hy; clear hy))
  have hq4 : Below w2.heap.size w2 w4 := hb3.grown hg4 hb3.size (by intro k e; cases e; exact Nat.le_refl _)
  have X0 := hid (below_chain (below_chain hb1 hb2) hq4)
  have X1 := hid ((hB1.belowS hb2).belowS hq4)
  have X2 := hid (hB2.belowS hq4)
  have X3 := hid hB4
  have l1 : w.heap.size < w1.heap.size := by have := hy1.out; omega
  have l2 : w1.heap.size < w2.heap.size := by have := hz2'.out; omega
  have l3 := hB4.lt
  clear hB1 hb1 hB2 hb2 hB3 hb3 hB4 hg4 hq4 a0 a1 a2 a3
  generalize w1.heap.size = g2 at *
  generalize w2.heap.size = g3 at *
  obtain ⟨a0, a1, a2, a3⟩ := two_facts X1.out
  obtain ⟨b0, b1, b2, b3⟩ := two_facts X3.out
  obtain ⟨c0, c1, c2, c3⟩ := two_facts X2.out
  go_wp2_with (at_builtin; go_loud (refine wpList_app _ rfl _ _ _ rfl w4.heap.size 36 i0 _ 101 136 Tryd.underlying45 hi0 hz0 hz1 hz2 zeroI_cells (by omega) _ 0 0 [] rfl (Own.nil _ _ _ _ _) A n c 0 _ rfl (HR.out.below X0.out) hone.out (by simp only [maxLen]; omega) (by omega) (Nat.le_refl _) ?_); intro D' c' w5 hO hg5 hat; clear a0 a1 a2 a3 b0 b1 b2 b3 c0 c1 c2 c3; have hb5 : Below w4.heap.size w4 w5 := (Below.refl _ _).grown hg5 (Nat.le_refl _) (fun g e => by simp [rowOf] at e); obtain ⟨b0, b1, b2, b3⟩ := two_facts (X3.out.belowS hb5); obtain ⟨c0, c1, c2, c3⟩ := two_facts (X2.out.belowS hb5))
  simp only [Nat.zero_add, List.nil_append] at hO ⊢
  have hs5 := hb5.size
  have B2 := (X2.out.belowS hb5)
  have B := ((B2.far (b := g3) (i := 0) (by omega) (.slice D' n c')).both (c := .slice D' n c') (d := .bool lost))
  have hC3 : Chg w5 (w5.setCell ⟨g3, 0, none⟩ (.slice D' n c')) (fun b => b = g3) := (Chg.refl w5 _).setCell (g := g3) (i := 0) _ (.inl rfl)
  have hC2 := chg_both (w5.setCell ⟨g3, 0, none⟩ (.slice D' n c')) g2 (.slice D' n c') (.bool lost)
  have hOf := ((hO.chg hC3 (fun b hb e => by omega)).chg hC2 (fun b hb e => by omega)).low (lo' := w.heap.size) X0.out.size
  have hbf := below_of_chg (below_of_chg (below_chain X0.out hb5) hC3 (fun b e => by omega)) hC2 (fun b e => by omega)
  generalize ((w5.setCell ⟨g3, 0, none⟩ (.slice D' n c')).setCell ⟨g2, 0, none⟩ (.slice D' n c')).setCell ⟨g2, 1, none⟩ (.bool lost) = wf at *
  obtain ⟨e0, e1, _, _⟩ := two_facts B
  have hnl : xs.length = n := hl.out
  refine bodyPost_ret (v := .agg #[.slice D' n c', .bool lost]) (by simp [results, Tryd.f35, go_sem, e0, e1]) rfl ?_
  subst hnl
  exact ⟨D', c', rfl, hOf, hbf⟩
end Go.Proofs.YtmepbokoopgmiaaDoor
