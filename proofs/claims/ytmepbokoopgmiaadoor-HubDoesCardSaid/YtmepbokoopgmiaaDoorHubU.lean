/-
  Contracts of the reference's With and Taken. No condition beyond those each theorem names.
-/
import Derived.Test.YtmepbokoopgmiaaDoorHubS
import Derived.Test.YtmepbokoopgmiaaDoorHubK
namespace Go.Proofs.YtmepbokoopgmiaaDoor
open Go.RowKit
set_option linter.unusedSimpArgs false
set_option linter.unusedVariables false

theorem gap_builtU (w : World) : (Instr.build 36 #[(0, .bool true)]).run Tryd.prog w = .ok (.agg (itL gapIt).toArray) w := run_build w _ _ _ (by kernel_rfl)
theorem tap_none (w : World) : (Instr.build 47 #[]).run Tryd.prog w = .ok (.agg #[.slice none 0 0, .bool false]) w := tap_built w
/-- What With gives. -/
def withT (xs : List It) (lost : Bool) (room : Int) (e : Ev) : List It × Bool :=
  if lost = true ∧ (xs.length : Int) + 2 ≤ room then (xs ++ [gapIt, (false, e)], false)
  else if lost = false ∧ (xs.length : Int) + 1 ≤ room then (xs ++ [(false, e)], lost) else (xs, true)
theorem withT_push {xs : List It} {lost : Bool} {room : Int} {e : Ev} (h1 : itsMay xs = true) (h2 : evMay e = true) (h3 : 1 ≤ room) (h4 : room ≤ 64) : withT xs lost room e = ((pushT xs lost room e).1, (pushT xs lost room e).2.1) := by
  have hp : pushT xs lost room e = (if lost = true then (if 2 ≤ room - xs.length then (xs ++ [gapIt, (false, e)], false, 0) else (xs, true, 0)) else (if 1 ≤ room - xs.length then (xs ++ [(false, e)], false, 0) else (xs, true, 0))) := by
    unfold pushT
    rw [h1, h2, Bool.and_true, if_pos rfl, if_pos ⟨h3, h4⟩]
  rw [hp]
  unfold withT
  cases lost
  · rw [if_neg (fun h => by cases h.1), if_neg (show ¬ false = true by simp)]
    by_cases h : 1 ≤ room - xs.length
    · rw [if_pos ⟨rfl, by omega⟩, if_pos h]
    · rw [if_neg (fun k => h (by have := k.2; omega)), if_neg h]
  · rw [if_pos (show true = true from rfl)]
    by_cases h : 2 ≤ room - xs.length
    · rw [if_pos ⟨rfl, by omega⟩, if_pos h]
    · rw [if_neg (fun k => h (by have := k.2; omega)), if_neg h, if_neg (fun k => by cases k.1)]
def GivesW (w : World) (r : List It × Bool) (e : Ending) (w' : World) : Prop := ∃ D m c, e = .returned (.agg #[.slice D m c, .bool r.2]) ∧ Fr w' w.heap.size 101 D m (itsL r.1) ∧ Below w.heap.size w w'

set_option maxRecDepth 100000 in
set_option maxHeartbeats 4000000 in
theorem with23_gap (A : Option Addr) (n c : Nat) (lost : Bool) (xs : List It) (ho : ItsOk xs) (room : Int) (e : Ev) (he : HdOk e.2.2) (w : World) (hr : Rd w 0 101 A n (itsL xs)) (hn : n ≤ 1000) (h1 : lost = true) (h2 : (n : Int) + 2 ≤ room) :
    Calls Tryd.prog 52 #[.agg #[.slice A n c, .bool lost], .int .i64 room, .agg (evL e).toArray] w (GivesW w (xs ++ [gapIt, (false, e)], false)) := by
  obtain ⟨i0, hi0, hz0, hi1, hi2⟩ := info_parts item_info
  have hn0 : xs.length = n := rd_len ho hr
  subst hn0
  have hTw := hid (fun W (h : Rd W 0 101 A xs.length (itsL xs)) => twin23_any A xs.length c lost xs ho W h hn)
  have HR := hid hr
  have hszE := ev_sizeA e he
  have hBI := hid (fun W => item_built e he W)
  have hoN := hid (itsL_one [gapIt, (false, e)])
  have oN : ItsOk [gapIt, (false, e)] := fun x hx => by simp at hx; rcases hx with rfl | rfl; exact gapIt_ok; exact he
  have hlN := hid (show (itsL [gapIt, (false, e)]).length = 2 * 101 from itsL_len _ oN)
  have hBS := hid (fun W => (show (Instr.buildSlice 45 2 #[(0, .agg (itL gapIt).toArray), (1, .agg (itL (false, e)).toArray)]).run Tryd.prog W = .ok (.slice (some ⟨W.heap.size, 0, none⟩) 2 2) (W.alloc (.cells (itsL [gapIt, (false, e)]).toArray 36)) from bslice_its [gapIt, (false, e)] oN (by simp) (by simp) W _ rfl))
  clear oN
  clear hr
  subst h1
  generalize hEL : (evL e).toArray = EA at *
  clear hEL
  go_enter Tryd.func52, Tryd.ntmps52
  go_upto_region 2 with (first
    | (refine wpList_bx rfl 47 _ rfl #[.slice A xs.length c, .bool _] rfl ?_; intro w1 hB1 hb1 hy; have hy1 := hid hy; clear hy)
    | (refine wpList_bx rfl 34 _ rfl EA rfl ?_; intro w2 hB2 hb2 hy; have hy2 := hid hy; clear hy)
    | ((with_reducible refine at_alloc (d := some 6) 47 ?_); refine wpList_al rfl 47 rfl _ (tap_zero _) ?_; intro w3 hB3 hb3 hy; have hy3 := hid hy; clear hy; have X0 := hid (below_chain (below_chain hb1 hb2) hb3); obtain ⟨a0, a1, a2, a3⟩ := two_facts ((hB1.belowS hb2).belowS hb3))
    | ((with_reducible refine (hTw.out _ (HR.out.below X0.out)).mono ?_); rintro e w4 ⟨D, d, rfl, hO, hb4⟩)
    | ((with_reducible refine at_alloc (d := some 7) 47 ?_); refine wpList_al rfl 47 rfl _ (tap_zero _) ?_; intro w5 hB5 hb5 hy; clear hy)
    | ((with_reducible refine at_store 47 ?_); refine wpList_str rfl 47 _ _ rfl w4.heap.size _ rfl rfl _ _ hB5 rfl (tap_size _ _) (one_tap _ _ _ _) ?_; intro w6 hB6 hg6 hy; clear hy))
  have hq6 : Below w4.heap.size w4 w6 := hb5.grown hg6 hb5.size (by intro k e; cases e; exact Nat.le_refl _)
  have hq := below_chain hb4 hq6
  have X1 := hid (((hB1.belowS hb2).belowS hb3).belowS hq)
  have X2 := hid ((hB2.belowS hb3).belowS hq)
  have X3 := hid (hB3.belowS hq)
  have X7 := hid hB6
  have X0 := hid (below_chain X0.out hq)
  have l1 : w.heap.size < w1.heap.size := by have := hy1.out; omega
  have l2 : w1.heap.size < w2.heap.size := by have := hy2.out; omega
  have l3 : w2.heap.size < w3.heap.size := by have := hy3.out; omega
  have l4 : w3.heap.size ≤ w4.heap.size := hb4.size
  have l7 := hid hB6.lt
  have HO := hid (hO.below hq6)
  have hrl := hid (fun g (e : rowOf D d = some g) => (⟨(hO.row_lt g e).1, (hO.row_lt g e).2⟩ : w3.heap.size ≤ g ∧ g < w4.heap.size))
  clear hB1 hb1 hB2 hb2 hB3 hb3 hO hb4 hB5 hb5 hB6 hg6 hq6 hq a0 a1 a2 a3 hy1 hy2 hy3
  generalize w1.heap.size = ge at *
  generalize w2.heap.size = g2 at *
  generalize w3.heap.size = lo at *
  generalize w4.heap.size = g7 at *
  obtain ⟨a0, a1, a2, a3⟩ := two_facts X1.out
  obtain ⟨b0, b1, b2, b3⟩ := two_facts X7.out
  obtain ⟨c0, c1, c2, c3⟩ := two_facts X3.out
  go_wp2_with (first
    | ((with_reducible refine at_build (d := some 24) 36 ?_); refine wpList_b1 rfl 36 0 _ rfl (.bool true) rfl _ (gap_builtU _) ?_)
    | ((with_reducible refine at_load 34 ?_); refine wpList_ldr rfl 34 _ rfl ge rfl _ EA _ X2.out Tryd.underlying34 rfl hszE ?_)
    | ((with_reducible refine at_build (d := some 26) 36 ?_); refine wpList_b1 rfl 36 1 _ rfl (.agg EA) rfl _ (hBI.out _) ?_)
    | ((with_reducible refine at_bslice 45 ?_); refine wpList_bsl2 rfl 45 36 2 0 1 _ _ rfl _ _ rfl rfl _ (hBS.out _) ?_; intro w8 hB8 hb8 hy; clear hy; have hOb := HO.out.below hb8)
    | (at_builtin; go_loud (refine wpList_app _ rfl _ _ _ rfl lo 36 i0 _ 101 136 Tryd.underlying45 hi0 hz0 hi1 hi2 zeroI_cells (by omega) D xs.length d _ rfl (hOb) _ 2 2 0 (itsL [gapIt, (false, e)]) rfl ((hB8.rd (n := 2) (sz := 101) hlN.out).low (Nat.zero_le _)) hoN.out (by simp only [maxLen]; omega) (by omega) (by have := hb8.size; have := l7.out; omega) ?_); intro D' d' w9 hO9 hg9 hat; clear a0 a1 a2 a3 b0 b1 b2 b3 c0 c1 c2 c3; have Y7 := hid ((X7.out.belowS hb8).grown hg9 (fun e => by have := hrl.out _ e.symm; omega)); have Y3 := hid ((X3.out.belowS hb8).grown hg9 (fun e => by have := hrl.out _ e.symm; omega)); obtain ⟨b0, b1, b2, b3⟩ := two_facts Y7.out; obtain ⟨c0, c1, c2, c3⟩ := two_facts Y3.out))
  rw [← itsL_app] at hO9
  have hb9 : Below w.heap.size w w9 := (below_chain X0.out hb8).grown hg9 (by have := X0.out.size; have := hb8.size; omega) (fun g e => by have := hrl.out _ e; omega)
  have hne7 : ∀ b, rowOf D' d' = some b → b ≠ g7 ∧ lo ≤ b := fun b e => by
    have h1 := (hO9.row_lt b e).1
    rcases hat with h | h | h
    · have := hrl.out b (h.symm.trans e); omega
    · rw [h] at e; cases e
    · rw [h] at e; have := Option.some.inj e; have := l7.out; have := hb8.size; omega
  have hC7 : Chg w9 ((w9.setCell ⟨g7, 0, none⟩ (.slice D' (xs.length + 2) d')).setCell ⟨g7, 1, none⟩ (.bool false)) (fun b => b = g7) := (chg_both w9 g7 (.slice D' (xs.length + 2) d') (.bool false))
  have hC2 := chg_both ((w9.setCell ⟨g7, 0, none⟩ (.slice D' (xs.length + 2) d')).setCell ⟨g7, 1, none⟩ (.bool false)) g2 (.slice D' (xs.length + 2) d') (.bool false)
  have B := (hC7.blk Y3.out (by omega)).both (c := .slice D' (xs.length + 2) d') (d := .bool false)
  have hOf := ((hO9).keep (fun b hl hr => hC7.block b hl (fun e => (hne7 b hr).1 e))).keep (fun b hl hr => hC2.block b hl (fun e => by have := (hne7 b hr).2; omega))
  have hbf := below_of_chg (below_of_chg (hb9) hC7 (fun b e => by omega)) hC2 (fun b e => by omega)
  generalize (((w9.setCell ⟨g7, 0, none⟩ (.slice D' (xs.length + 2) d')).setCell ⟨g7, 1, none⟩ (.bool false)).setCell ⟨g2, 0, none⟩ (.slice D' (xs.length + 2) d')).setCell ⟨g2, 1, none⟩ (.bool false) = wf at *
  obtain ⟨e0, e1, _, _⟩ := two_facts B
  exact bodyPost_ret (v := .agg #[.slice D' (xs.length + 2) d', .bool false]) (by simp [results, Tryd.f52, go_sem, e0, e1]) rfl ⟨_, _, _, rfl, hOf.fr.low (by omega), hbf⟩

set_option maxRecDepth 100000 in
set_option maxHeartbeats 4000000 in
theorem with23_one (A : Option Addr) (n c : Nat) (lost : Bool) (xs : List It) (ho : ItsOk xs) (room : Int) (e : Ev) (he : HdOk e.2.2) (w : World) (hr : Rd w 0 101 A n (itsL xs)) (hn : n ≤ 1000) (h1 : lost = false) (h2 : (n : Int) + 1 ≤ room) :
    Calls Tryd.prog 52 #[.agg #[.slice A n c, .bool lost], .int .i64 room, .agg (evL e).toArray] w (GivesW w (xs ++ [(false, e)], false)) := by
  obtain ⟨i0, hi0, hz0, hi1, hi2⟩ := info_parts item_info
  have hn0 : xs.length = n := rd_len ho hr
  subst hn0
  have hTw := hid (fun W (h : Rd W 0 101 A xs.length (itsL xs)) => twin23_any A xs.length c lost xs ho W h hn)
  have HR := hid hr
  have hszE := ev_sizeA e he
  have hBI := hid (fun W => item_built e he W)
  have hoN := hid (itsL_one [(false, e)])
  have oN : ItsOk [(false, e)] := fun x hx => by simp at hx; rcases hx with rfl; exact he
  have hlN := hid (show (itsL [(false, e)]).length = 1 * 101 from itsL_len _ oN)
  have hBS := hid (fun W => (show (Instr.buildSlice 45 1 #[(0, .agg (itL (false, e)).toArray)]).run Tryd.prog W = .ok (.slice (some ⟨W.heap.size, 0, none⟩) 1 1) (W.alloc (.cells (itsL [(false, e)]).toArray 36)) from bslice_its [(false, e)] oN (by simp) (by simp) W _ rfl))
  clear oN
  clear hr
  subst h1
  generalize hEL : (evL e).toArray = EA at *
  clear hEL
  go_enter Tryd.func52, Tryd.ntmps52
  go_upto_region 2 with (first
    | (refine wpList_bx rfl 47 _ rfl #[.slice A xs.length c, .bool _] rfl ?_; intro w1 hB1 hb1 hy; have hy1 := hid hy; clear hy)
    | (refine wpList_bx rfl 34 _ rfl EA rfl ?_; intro w2 hB2 hb2 hy; have hy2 := hid hy; clear hy)
    | ((with_reducible refine at_alloc (d := some 6) 47 ?_); refine wpList_al rfl 47 rfl _ (tap_zero _) ?_; intro w3 hB3 hb3 hy; have hy3 := hid hy; clear hy; have X0 := hid (below_chain (below_chain hb1 hb2) hb3); obtain ⟨a0, a1, a2, a3⟩ := two_facts ((hB1.belowS hb2).belowS hb3))
    | ((with_reducible refine (hTw.out _ (HR.out.below X0.out)).mono ?_); rintro e w4 ⟨D, d, rfl, hO, hb4⟩)
    | ((with_reducible refine at_alloc (d := some 7) 47 ?_); refine wpList_al rfl 47 rfl _ (tap_zero _) ?_; intro w5 hB5 hb5 hy; clear hy)
    | ((with_reducible refine at_store 47 ?_); refine wpList_str rfl 47 _ _ rfl w4.heap.size _ rfl rfl _ _ hB5 rfl (tap_size _ _) (one_tap _ _ _ _) ?_; intro w6 hB6 hg6 hy; clear hy))
  have hq6 : Below w4.heap.size w4 w6 := hb5.grown hg6 hb5.size (by intro k e; cases e; exact Nat.le_refl _)
  have hq := below_chain hb4 hq6
  have X1 := hid (((hB1.belowS hb2).belowS hb3).belowS hq)
  have X2 := hid ((hB2.belowS hb3).belowS hq)
  have X3 := hid (hB3.belowS hq)
  have X7 := hid hB6
  have X0 := hid (below_chain X0.out hq)
  have l1 : w.heap.size < w1.heap.size := by have := hy1.out; omega
  have l2 : w1.heap.size < w2.heap.size := by have := hy2.out; omega
  have l3 : w2.heap.size < w3.heap.size := by have := hy3.out; omega
  have l4 : w3.heap.size ≤ w4.heap.size := hb4.size
  have l7 := hid hB6.lt
  have HO := hid (hO.below hq6)
  have hrl := hid (fun g (e : rowOf D d = some g) => (⟨(hO.row_lt g e).1, (hO.row_lt g e).2⟩ : w3.heap.size ≤ g ∧ g < w4.heap.size))
  clear hB1 hb1 hB2 hb2 hB3 hb3 hO hb4 hB5 hb5 hB6 hg6 hq6 hq a0 a1 a2 a3 hy1 hy2 hy3
  generalize w1.heap.size = ge at *
  generalize w2.heap.size = g2 at *
  generalize w3.heap.size = lo at *
  generalize w4.heap.size = g7 at *
  obtain ⟨a0, a1, a2, a3⟩ := two_facts X1.out
  obtain ⟨b0, b1, b2, b3⟩ := two_facts X7.out
  obtain ⟨c0, c1, c2, c3⟩ := two_facts X3.out
  go_wp2_with (first
    | ((with_reducible refine at_load 34 ?_); refine wpList_ldr rfl 34 _ rfl ge rfl _ EA _ X2.out Tryd.underlying34 rfl hszE ?_)
    | ((with_reducible refine at_build (d := some 44) 36 ?_); refine wpList_b1 rfl 36 1 _ rfl (.agg EA) rfl _ (hBI.out _) ?_)
    | ((with_reducible refine at_bslice 45 ?_); refine wpList_bsl1 rfl 45 36 1 0 _ rfl _ rfl _ (hBS.out _) ?_; intro w8 hB8 hb8 hy; clear hy; have hOb := HO.out.below hb8)
    | (at_builtin; go_loud (refine wpList_app _ rfl _ _ _ rfl lo 36 i0 _ 101 136 Tryd.underlying45 hi0 hz0 hi1 hi2 zeroI_cells (by omega) D xs.length d _ rfl (hOb) _ 1 1 0 (itsL [(false, e)]) rfl ((hB8.rd (n := 1) (sz := 101) hlN.out).low (Nat.zero_le _)) hoN.out (by simp only [maxLen]; omega) (by omega) (by have := hb8.size; have := l7.out; omega) ?_); intro D' d' w9 hO9 hg9 hat; clear a0 a1 a2 a3 b0 b1 b2 b3 c0 c1 c2 c3; have Y7 := hid ((X7.out.belowS hb8).grown hg9 (fun e => by have := hrl.out _ e.symm; omega)); have Y3 := hid ((X3.out.belowS hb8).grown hg9 (fun e => by have := hrl.out _ e.symm; omega)); obtain ⟨b0, b1, b2, b3⟩ := two_facts Y7.out; obtain ⟨c0, c1, c2, c3⟩ := two_facts Y3.out))
  rw [← itsL_app] at hO9
  have hb9 : Below w.heap.size w w9 := (below_chain X0.out hb8).grown hg9 (by have := X0.out.size; have := hb8.size; omega) (fun g e => by have := hrl.out _ e; omega)
  have hne7 : ∀ b, rowOf D' d' = some b → b ≠ g7 ∧ lo ≤ b := fun b e => by
    have h1 := (hO9.row_lt b e).1
    rcases hat with h | h | h
    · have := hrl.out b (h.symm.trans e); omega
    · rw [h] at e; cases e
    · rw [h] at e; have := Option.some.inj e; have := l7.out; have := hb8.size; omega
  have hC7 : Chg w9 (w9.setCell ⟨g7, 0, none⟩ (.slice D' (xs.length + 1) d')) (fun b => b = g7) := ((Chg.refl w9 (fun b => b = g7)).setCell (g := g7) (i := 0) (.slice D' (xs.length + 1) d') (.inl rfl))
  have hC2 := chg_both (w9.setCell ⟨g7, 0, none⟩ (.slice D' (xs.length + 1) d')) g2 (.slice D' (xs.length + 1) d') (.bool false)
  have B := (hC7.blk Y3.out (by omega)).both (c := .slice D' (xs.length + 1) d') (d := .bool false)
  have hOf := ((hO9).keep (fun b hl hr => hC7.block b hl (fun e => (hne7 b hr).1 e))).keep (fun b hl hr => hC2.block b hl (fun e => by have := (hne7 b hr).2; omega))
  have hbf := below_of_chg (below_of_chg (hb9) hC7 (fun b e => by omega)) hC2 (fun b e => by omega)
  generalize ((w9.setCell ⟨g7, 0, none⟩ (.slice D' (xs.length + 1) d')).setCell ⟨g2, 0, none⟩ (.slice D' (xs.length + 1) d')).setCell ⟨g2, 1, none⟩ (.bool false) = wf at *
  obtain ⟨e0, e1, _, _⟩ := two_facts B
  exact bodyPost_ret (v := .agg #[.slice D' (xs.length + 1) d', .bool false]) (by simp [results, Tryd.f52, go_sem, e0, e1]) rfl ⟨_, _, _, rfl, hOf.fr.low (by omega), hbf⟩

set_option maxRecDepth 100000 in
set_option maxHeartbeats 4000000 in
theorem with23_keepg (A : Option Addr) (n c : Nat) (lost : Bool) (xs : List It) (ho : ItsOk xs) (room : Int) (e : Ev) (he : HdOk e.2.2) (w : World) (hr : Rd w 0 101 A n (itsL xs)) (hn : n ≤ 1000) (h1 : lost = true) (h2 : ¬ (n : Int) + 2 ≤ room) :
    Calls Tryd.prog 52 #[.agg #[.slice A n c, .bool lost], .int .i64 room, .agg (evL e).toArray] w (GivesW w (xs, true)) := by
  obtain ⟨i0, hi0, hz0, hi1, hi2⟩ := info_parts item_info
  have hn0 : xs.length = n := rd_len ho hr
  subst hn0
  have hTw := hid (fun W (h : Rd W 0 101 A xs.length (itsL xs)) => twin23_any A xs.length c lost xs ho W h hn)
  have HR := hid hr
  have hszE := ev_sizeA e he
  have hBI := hid (fun W => item_built e he W)
  clear hr
  subst h1
  generalize hEL : (evL e).toArray = EA at *
  clear hEL
  go_enter Tryd.func52, Tryd.ntmps52
  go_upto_region 2 with (first
    | (refine wpList_bx rfl 47 _ rfl #[.slice A xs.length c, .bool _] rfl ?_; intro w1 hB1 hb1 hy; have hy1 := hid hy; clear hy)
    | (refine wpList_bx rfl 34 _ rfl EA rfl ?_; intro w2 hB2 hb2 hy; have hy2 := hid hy; clear hy)
    | ((with_reducible refine at_alloc (d := some 6) 47 ?_); refine wpList_al rfl 47 rfl _ (tap_zero _) ?_; intro w3 hB3 hb3 hy; have hy3 := hid hy; clear hy; have X0 := hid (below_chain (below_chain hb1 hb2) hb3); obtain ⟨a0, a1, a2, a3⟩ := two_facts ((hB1.belowS hb2).belowS hb3))
    | ((with_reducible refine (hTw.out _ (HR.out.below X0.out)).mono ?_); rintro e w4 ⟨D, d, rfl, hO, hb4⟩)
    | ((with_reducible refine at_alloc (d := some 7) 47 ?_); refine wpList_al rfl 47 rfl _ (tap_zero _) ?_; intro w5 hB5 hb5 hy; clear hy)
    | ((with_reducible refine at_store 47 ?_); refine wpList_str rfl 47 _ _ rfl w4.heap.size _ rfl rfl _ _ hB5 rfl (tap_size _ _) (one_tap _ _ _ _) ?_; intro w6 hB6 hg6 hy; clear hy))
  have hq6 : Below w4.heap.size w4 w6 := hb5.grown hg6 hb5.size (by intro k e; cases e; exact Nat.le_refl _)
  have hq := below_chain hb4 hq6
  have X1 := hid (((hB1.belowS hb2).belowS hb3).belowS hq)
  have X2 := hid ((hB2.belowS hb3).belowS hq)
  have X3 := hid (hB3.belowS hq)
  have X7 := hid hB6
  have X0 := hid (below_chain X0.out hq)
  have l1 : w.heap.size < w1.heap.size := by have := hy1.out; omega
  have l2 : w1.heap.size < w2.heap.size := by have := hy2.out; omega
  have l3 : w2.heap.size < w3.heap.size := by have := hy3.out; omega
  have l4 : w3.heap.size ≤ w4.heap.size := hb4.size
  have l7 := hid hB6.lt
  have HO := hid (hO.below hq6)
  have hrl := hid (fun g (e : rowOf D d = some g) => (⟨(hO.row_lt g e).1, (hO.row_lt g e).2⟩ : w3.heap.size ≤ g ∧ g < w4.heap.size))
  clear hB1 hb1 hB2 hb2 hB3 hb3 hO hb4 hB5 hb5 hB6 hg6 hq6 hq a0 a1 a2 a3 hy1 hy2 hy3
  generalize w1.heap.size = ge at *
  generalize w2.heap.size = g2 at *
  generalize w3.heap.size = lo at *
  generalize w4.heap.size = g7 at *
  obtain ⟨a0, a1, a2, a3⟩ := two_facts X1.out
  obtain ⟨b0, b1, b2, b3⟩ := two_facts X7.out
  obtain ⟨c0, c1, c2, c3⟩ := two_facts X3.out
  go_wp2_with fail
  have hne7 : ∀ b, rowOf D d = some b → b ≠ g7 ∧ lo ≤ b := fun b e => ⟨by have := hrl.out b e; omega, (hrl.out b e).1⟩
  have hC7 : Chg w6 (w6.setCell ⟨g7, 1, none⟩ (.bool true)) (fun b => b = g7) := ((Chg.refl w6 (fun b => b = g7)).setCell (g := g7) (i := 1) (.bool true) (.inl rfl))
  have hC2 := chg_both (w6.setCell ⟨g7, 1, none⟩ (.bool true)) g2 (.slice D xs.length d) (.bool true)
  have B := (hC7.blk X3.out (by omega)).both (c := .slice D xs.length d) (d := .bool true)
  have hOf := ((HO.out).keep (fun b hl hr => hC7.block b hl (fun e => (hne7 b hr).1 e))).keep (fun b hl hr => hC2.block b hl (fun e => by have := (hne7 b hr).2; omega))
  have hbf := below_of_chg (below_of_chg (X0.out) hC7 (fun b e => by omega)) hC2 (fun b e => by omega)
  generalize ((w6.setCell ⟨g7, 1, none⟩ (.bool true)).setCell ⟨g2, 0, none⟩ (.slice D xs.length d)).setCell ⟨g2, 1, none⟩ (.bool true) = wf at *
  obtain ⟨e0, e1, _, _⟩ := two_facts B
  exact bodyPost_ret (v := .agg #[.slice D xs.length d, .bool true]) (by simp [results, Tryd.f52, go_sem, e0, e1]) rfl ⟨_, _, _, rfl, hOf.fr.low (by omega), hbf⟩

set_option maxRecDepth 100000 in
set_option maxHeartbeats 4000000 in
theorem with23_keepo (A : Option Addr) (n c : Nat) (lost : Bool) (xs : List It) (ho : ItsOk xs) (room : Int) (e : Ev) (he : HdOk e.2.2) (w : World) (hr : Rd w 0 101 A n (itsL xs)) (hn : n ≤ 1000) (h1 : lost = false) (h2 : ¬ (n : Int) + 1 ≤ room) :
    Calls Tryd.prog 52 #[.agg #[.slice A n c, .bool lost], .int .i64 room, .agg (evL e).toArray] w (GivesW w (xs, true)) := by
  obtain ⟨i0, hi0, hz0, hi1, hi2⟩ := info_parts item_info
  have hn0 : xs.length = n := rd_len ho hr
  subst hn0
  have hTw := hid (fun W (h : Rd W 0 101 A xs.length (itsL xs)) => twin23_any A xs.length c lost xs ho W h hn)
  have HR := hid hr
  have hszE := ev_sizeA e he
  have hBI := hid (fun W => item_built e he W)
  clear hr
  subst h1
  generalize hEL : (evL e).toArray = EA at *
  clear hEL
  go_enter Tryd.func52, Tryd.ntmps52
  go_upto_region 2 with (first
    | (refine wpList_bx rfl 47 _ rfl #[.slice A xs.length c, .bool _] rfl ?_; intro w1 hB1 hb1 hy; have hy1 := hid hy; clear hy)
    | (refine wpList_bx rfl 34 _ rfl EA rfl ?_; intro w2 hB2 hb2 hy; have hy2 := hid hy; clear hy)
    | ((with_reducible refine at_alloc (d := some 6) 47 ?_); refine wpList_al rfl 47 rfl _ (tap_zero _) ?_; intro w3 hB3 hb3 hy; have hy3 := hid hy; clear hy; have X0 := hid (below_chain (below_chain hb1 hb2) hb3); obtain ⟨a0, a1, a2, a3⟩ := two_facts ((hB1.belowS hb2).belowS hb3))
    | ((with_reducible refine (hTw.out _ (HR.out.below X0.out)).mono ?_); rintro e w4 ⟨D, d, rfl, hO, hb4⟩)
    | ((with_reducible refine at_alloc (d := some 7) 47 ?_); refine wpList_al rfl 47 rfl _ (tap_zero _) ?_; intro w5 hB5 hb5 hy; clear hy)
    | ((with_reducible refine at_store 47 ?_); refine wpList_str rfl 47 _ _ rfl w4.heap.size _ rfl rfl _ _ hB5 rfl (tap_size _ _) (one_tap _ _ _ _) ?_; intro w6 hB6 hg6 hy; clear hy))
  have hq6 : Below w4.heap.size w4 w6 := hb5.grown hg6 hb5.size (by intro k e; cases e; exact Nat.le_refl _)
  have hq := below_chain hb4 hq6
  have X1 := hid (((hB1.belowS hb2).belowS hb3).belowS hq)
  have X2 := hid ((hB2.belowS hb3).belowS hq)
  have X3 := hid (hB3.belowS hq)
  have X7 := hid hB6
  have X0 := hid (below_chain X0.out hq)
  have l1 : w.heap.size < w1.heap.size := by have := hy1.out; omega
  have l2 : w1.heap.size < w2.heap.size := by have := hy2.out; omega
  have l3 : w2.heap.size < w3.heap.size := by have := hy3.out; omega
  have l4 : w3.heap.size ≤ w4.heap.size := hb4.size
  have l7 := hid hB6.lt
  have HO := hid (hO.below hq6)
  have hrl := hid (fun g (e : rowOf D d = some g) => (⟨(hO.row_lt g e).1, (hO.row_lt g e).2⟩ : w3.heap.size ≤ g ∧ g < w4.heap.size))
  clear hB1 hb1 hB2 hb2 hB3 hb3 hO hb4 hB5 hb5 hB6 hg6 hq6 hq a0 a1 a2 a3 hy1 hy2 hy3
  generalize w1.heap.size = ge at *
  generalize w2.heap.size = g2 at *
  generalize w3.heap.size = lo at *
  generalize w4.heap.size = g7 at *
  obtain ⟨a0, a1, a2, a3⟩ := two_facts X1.out
  obtain ⟨b0, b1, b2, b3⟩ := two_facts X7.out
  obtain ⟨c0, c1, c2, c3⟩ := two_facts X3.out
  go_wp2_with fail
  have hne7 : ∀ b, rowOf D d = some b → b ≠ g7 ∧ lo ≤ b := fun b e => ⟨by have := hrl.out b e; omega, (hrl.out b e).1⟩
  have hC7 : Chg w6 (w6.setCell ⟨g7, 1, none⟩ (.bool true)) (fun b => b = g7) := ((Chg.refl w6 (fun b => b = g7)).setCell (g := g7) (i := 1) (.bool true) (.inl rfl))
  have hC2 := chg_both (w6.setCell ⟨g7, 1, none⟩ (.bool true)) g2 (.slice D xs.length d) (.bool true)
  have B := (hC7.blk X3.out (by omega)).both (c := .slice D xs.length d) (d := .bool true)
  have hOf := ((HO.out).keep (fun b hl hr => hC7.block b hl (fun e => (hne7 b hr).1 e))).keep (fun b hl hr => hC2.block b hl (fun e => by have := (hne7 b hr).2; omega))
  have hbf := below_of_chg (below_of_chg (X0.out) hC7 (fun b e => by omega)) hC2 (fun b e => by omega)
  generalize ((w6.setCell ⟨g7, 1, none⟩ (.bool true)).setCell ⟨g2, 0, none⟩ (.slice D xs.length d)).setCell ⟨g2, 1, none⟩ (.bool true) = wf at *
  obtain ⟨e0, e1, _, _⟩ := two_facts B
  exact bodyPost_ret (v := .agg #[.slice D xs.length d, .bool true]) (by simp [results, Tryd.f52, go_sem, e0, e1]) rfl ⟨_, _, _, rfl, hOf.fr.low (by omega), hbf⟩

theorem with23_any (A : Option Addr) (n c : Nat) (lost : Bool) (xs : List It) (ho : ItsOk xs) (room : Int) (e : Ev) (he : HdOk e.2.2) (w : World) (hr : Rd w 0 101 A n (itsL xs)) (hn : n ≤ 1000) :
    Calls Tryd.prog 52 #[.agg #[.slice A n c, .bool lost], .int .i64 room, .agg (evL e).toArray] w (GivesW w (withT xs lost room e)) := by
  have hl : xs.length = n := rd_len ho hr
  unfold withT
  cases h : lost
  · rw [if_neg (fun h => by cases h.1)]
    by_cases h2 : (xs.length : Int) + 1 ≤ room
    · rw [if_pos ⟨rfl, h2⟩]
      exact with23_one A n c false xs ho room e he w hr hn rfl (by rw [← hl]; exact h2)
    · rw [if_neg (fun k => h2 k.2)]
      exact with23_keepo A n c false xs ho room e he w hr hn rfl (by rw [← hl]; exact h2)
  · by_cases h2 : (xs.length : Int) + 2 ≤ room
    · rw [if_pos ⟨rfl, h2⟩]
      exact with23_gap A n c true xs ho room e he w hr hn rfl (by rw [← hl]; exact h2)
    · rw [if_neg (fun k => h2 k.2), if_neg (fun k => by cases k.1)]
      exact with23_keepg A n c true xs ho room e he w hr hn rfl (by rw [← hl]; exact h2)
end Go.Proofs.YtmepbokoopgmiaaDoor
