/-
  Contract of the reference's Tell of a hub. No condition beyond those each theorem names.
-/
import Derived.Test.YtmepbokoopgmiaaDoorHubZi
namespace Go.Proofs.YtmepbokoopgmiaaDoor
open Go.RowKit
set_option linter.unusedSimpArgs false
set_option linter.unusedVariables false

theorem told_tell {room : Int} {e : Ev} (h1 : evMay e = true) (h2 : 1 ≤ room) (h3 : room ≤ 64) {s : Sub} (hs : itsMay s.2.2.1 = true) : toldST room e s = tellST room e s := by
  unfold toldST tellST
  rw [withT_push hs h1 h2 h3]
theorem push_code (room : Int) (e : Ev) : (pushT [] false room e).2.2 = if evMay e = true then (if 1 ≤ room ∧ room ≤ 64 then 0 else 2) else 8 := by
  unfold pushT
  rw [show itsMay [] = true from rfl, Bool.true_and]
  by_cases h : evMay e = true
  · rw [if_pos h, if_pos h]
    by_cases k : 1 ≤ room ∧ room ≤ 64
    · rw [if_pos k, if_pos k, if_neg (by simp), if_pos (by simp; omega)]
    · rw [if_neg k, if_neg k]
  · rw [if_neg h, if_neg h]

set_option maxRecDepth 100000 in
set_option maxHeartbeats 8000000 in
theorem tell24_bad (h : Hub) (A : Option Addr) (n c : Nat) (room : Int) (e : Ev) (he : HdOk e.2.2) (w : World) (hh : HubIn w h A n) (hm : hubMay h = false) :
    Calls Tryd.prog 21 #[.agg #[.int .i64 h.1, .slice A n c], .int .i64 room, .agg (evL e).toArray] w (GivesL w (zeroHub, 8)) := by
  have hM := hid (fun W (k : HubIn W h A n) => hmay_any h A n c W k)
  have HH := hid hh
  have hszE := ev_sizeA e he
  have hEv := hid (fun W => ev23_any e he W)
  rw [hm] at hM
  clear hh hm
  obtain ⟨nx, ss⟩ := h
  try dsimp only at *
  generalize hEL : (evL e).toArray = EA at *
  clear hEL
  go_enter Tryd.func21, Tryd.ntmps21
  go_upto_region 1 with (first
    | (refine wpList_bx rfl 24 _ rfl #[.int .i64 nx, .slice A n c] rfl ?_; intro w1 hB1 hb1 hy; have hz1 := hid hy; clear hy)
    | (refine wpList_bx rfl 34 _ rfl EA rfl ?_; intro w2 hB2 hb2 hy; have hz2 := hid hy; clear hy)
    | ((with_reducible refine at_alloc (d := some 6) 24 ?_); refine wpList_al rfl 24 rfl _ (hub_zero _) ?_; intro w3 hB3 hb3 hy; clear hy))
  have X0 := hid (below_chain (below_chain hb1 hb2) hb3)
  have X1 := hid ((hB1.belowS hb2).belowS hb3)
  have XE := hid (hB2.belowS hb3)
  have X2 := hid hB3
  have l1 := hid (show w.heap.size < w1.heap.size by have := hz1.out; omega)
  have l2 := hid (show w1.heap.size < w2.heap.size by have := hz2.out; omega)
  have l3 := hid hB3.lt
  clear hB1 hb1 hz1 hB2 hb2 hz2 hB3 hb3
  generalize w1.heap.size = ge at *
  generalize w2.heap.size = g2 at *
  obtain ⟨a0, a1, a2, a3⟩ := two_facts X1.out
  obtain ⟨c0, c1, c2, c3⟩ := two_facts X2.out
  go_wp2_with (first
    | ((with_reducible refine (hM.out _ (HH.out.below X0.out)).mono ?_); rintro e w3 ⟨rfl, hb3⟩; clear a0 a1 a2 a3 c0 c1 c2 c3; have X0 := hid (below_chain X0.out hb3); have X1 := hid (X1.out.belowS hb3); have XE := hid (XE.out.belowS hb3); have X2 := hid (X2.out.belowS hb3); have l3 := hid (show g2 < w3.heap.size by have := l3.out; have := (hb3).size; omega); obtain ⟨a0, a1, a2, a3⟩ := two_facts X1.out; obtain ⟨c0, c1, c2, c3⟩ := two_facts X2.out)
    | ((with_reducible refine at_build 24 ?_); refine wpList_bd rfl 24 rfl _ (hub_built _) ?_))
  have B := (X2.out).both (c := .int .i64 0) (d := .slice none 0 0)
  have hbf := below_both (g := g2) X0.out (.int .i64 0) (.slice none 0 0) (by have := l1.out; have := l2.out; omega)
  generalize (w3.setCell ⟨g2, 0, none⟩ (.int .i64 0)).setCell ⟨g2, 1, none⟩ (.slice none 0 0) = wf at *
  obtain ⟨g0, g1, _, _⟩ := two_facts B
  exact bodyPost_ret (v := .tuple #[.agg #[.int .i64 0, .slice none 0 0], .int .i64 8]) (by simp [results, Tryd.f21, go_sem, g0, g1]) rfl ⟨none, 0, 0, [], rfl, rfl, HOwn.nil _ _ _, hbf⟩

set_option maxRecDepth 100000 in
set_option maxHeartbeats 8000000 in
theorem tell24_ev (h : Hub) (A : Option Addr) (n c : Nat) (room : Int) (e : Ev) (he : HdOk e.2.2) (w : World) (hh : HubIn w h A n) (hm : hubMay h = true) (hE : evMay e = false) :
    Calls Tryd.prog 21 #[.agg #[.int .i64 h.1, .slice A n c], .int .i64 room, .agg (evL e).toArray] w (GivesL w (zeroHub, 8)) := by
  have hM := hid (fun W (k : HubIn W h A n) => hmay_any h A n c W k)
  have HH := hid hh
  have hszE := ev_sizeA e he
  have hEv := hid (fun W => ev23_any e he W)
  rw [hE] at hEv
  rw [hm] at hM
  clear hh hm
  obtain ⟨nx, ss⟩ := h
  try dsimp only at *
  generalize hEL : (evL e).toArray = EA at *
  clear hEL
  go_enter Tryd.func21, Tryd.ntmps21
  go_upto_region 1 with (first
    | (refine wpList_bx rfl 24 _ rfl #[.int .i64 nx, .slice A n c] rfl ?_; intro w1 hB1 hb1 hy; have hz1 := hid hy; clear hy)
    | (refine wpList_bx rfl 34 _ rfl EA rfl ?_; intro w2 hB2 hb2 hy; have hz2 := hid hy; clear hy)
    | ((with_reducible refine at_alloc (d := some 6) 24 ?_); refine wpList_al rfl 24 rfl _ (hub_zero _) ?_; intro w3 hB3 hb3 hy; clear hy))
  have X0 := hid (below_chain (below_chain hb1 hb2) hb3)
  have X1 := hid ((hB1.belowS hb2).belowS hb3)
  have XE := hid (hB2.belowS hb3)
  have X2 := hid hB3
  have l1 := hid (show w.heap.size < w1.heap.size by have := hz1.out; omega)
  have l2 := hid (show w1.heap.size < w2.heap.size by have := hz2.out; omega)
  have l3 := hid hB3.lt
  clear hB1 hb1 hz1 hB2 hb2 hz2 hB3 hb3
  generalize w1.heap.size = ge at *
  generalize w2.heap.size = g2 at *
  obtain ⟨a0, a1, a2, a3⟩ := two_facts X1.out
  obtain ⟨c0, c1, c2, c3⟩ := two_facts X2.out
  go_wp2_with (first
    | ((with_reducible refine (hM.out _ (HH.out.below X0.out)).mono ?_); rintro e w3 ⟨rfl, hb3⟩; clear a0 a1 a2 a3 c0 c1 c2 c3; have X0 := hid (below_chain X0.out hb3); have X1 := hid (X1.out.belowS hb3); have XE := hid (XE.out.belowS hb3); have X2 := hid (X2.out.belowS hb3); have l3 := hid (show g2 < w3.heap.size by have := l3.out; have := (hb3).size; omega); obtain ⟨a0, a1, a2, a3⟩ := two_facts X1.out; obtain ⟨c0, c1, c2, c3⟩ := two_facts X2.out)
    | ((with_reducible refine at_load (d := some 12) 34 ?_); refine wpList_ldr_g (by kernel_rfl) 34 _ rfl ge rfl _ EA _ XE.out Tryd.underlying34 rfl hszE ?_)
    | ((with_reducible refine (hEv.out _).mono ?_); rintro e w4 ⟨rfl, hb4⟩; clear a0 a1 a2 a3 c0 c1 c2 c3; have X0 := hid (below_chain X0.out hb4); have X1 := hid (X1.out.belowS hb4); have XE := hid (XE.out.belowS hb4); have X2 := hid (X2.out.belowS hb4); have l3 := hid (show g2 < w4.heap.size by have := l3.out; have := (hb4).size; omega); obtain ⟨a0, a1, a2, a3⟩ := two_facts X1.out; obtain ⟨c0, c1, c2, c3⟩ := two_facts X2.out)
    | ((with_reducible refine at_build 24 ?_); refine wpList_bd rfl 24 rfl _ (hub_built _) ?_))
  have B := (X2.out).both (c := .int .i64 0) (d := .slice none 0 0)
  have hbf := below_both (g := g2) X0.out (.int .i64 0) (.slice none 0 0) (by have := l1.out; have := l2.out; omega)
  generalize (w4.setCell ⟨g2, 0, none⟩ (.int .i64 0)).setCell ⟨g2, 1, none⟩ (.slice none 0 0) = wf at *
  obtain ⟨g0, g1, _, _⟩ := two_facts B
  exact bodyPost_ret (v := .tuple #[.agg #[.int .i64 0, .slice none 0 0], .int .i64 8]) (by simp [results, Tryd.f21, go_sem, g0, g1]) rfl ⟨none, 0, 0, [], rfl, rfl, HOwn.nil _ _ _, hbf⟩

set_option maxRecDepth 100000 in
set_option maxHeartbeats 8000000 in
theorem tell24_room (h : Hub) (A : Option Addr) (n c : Nat) (room : Int) (e : Ev) (he : HdOk e.2.2) (w : World) (hh : HubIn w h A n) (hm : hubMay h = true) (hE : evMay e = true) (hr : room < 1 ∨ 64 < room) :
    Calls Tryd.prog 21 #[.agg #[.int .i64 h.1, .slice A n c], .int .i64 room, .agg (evL e).toArray] w (GivesL w (zeroHub, 2)) := by
  have hM := hid (fun W (k : HubIn W h A n) => hmay_any h A n c W k)
  have HH := hid hh
  have hszE := ev_sizeA e he
  have hEv := hid (fun W => ev23_any e he W)
  rw [hE] at hEv
  rw [hm] at hM
  clear hh hm
  obtain ⟨nx, ss⟩ := h
  try dsimp only at *
  generalize hEL : (evL e).toArray = EA at *
  clear hEL
  go_enter Tryd.func21, Tryd.ntmps21
  go_upto_region 1 with (first
    | (refine wpList_bx rfl 24 _ rfl #[.int .i64 nx, .slice A n c] rfl ?_; intro w1 hB1 hb1 hy; have hz1 := hid hy; clear hy)
    | (refine wpList_bx rfl 34 _ rfl EA rfl ?_; intro w2 hB2 hb2 hy; have hz2 := hid hy; clear hy)
    | ((with_reducible refine at_alloc (d := some 6) 24 ?_); refine wpList_al rfl 24 rfl _ (hub_zero _) ?_; intro w3 hB3 hb3 hy; clear hy))
  have X0 := hid (below_chain (below_chain hb1 hb2) hb3)
  have X1 := hid ((hB1.belowS hb2).belowS hb3)
  have XE := hid (hB2.belowS hb3)
  have X2 := hid hB3
  have l1 := hid (show w.heap.size < w1.heap.size by have := hz1.out; omega)
  have l2 := hid (show w1.heap.size < w2.heap.size by have := hz2.out; omega)
  have l3 := hid hB3.lt
  clear hB1 hb1 hz1 hB2 hb2 hz2 hB3 hb3
  generalize w1.heap.size = ge at *
  generalize w2.heap.size = g2 at *
  obtain ⟨a0, a1, a2, a3⟩ := two_facts X1.out
  obtain ⟨c0, c1, c2, c3⟩ := two_facts X2.out
  by_cases t1 : room < 1
  · clear hr
    go_wp2_with (first
      | ((with_reducible refine (hM.out _ (HH.out.below X0.out)).mono ?_); rintro e w3 ⟨rfl, hb3⟩; clear a0 a1 a2 a3 c0 c1 c2 c3; have X0 := hid (below_chain X0.out hb3); have X1 := hid (X1.out.belowS hb3); have XE := hid (XE.out.belowS hb3); have X2 := hid (X2.out.belowS hb3); have l3 := hid (show g2 < w3.heap.size by have := l3.out; have := (hb3).size; omega); obtain ⟨a0, a1, a2, a3⟩ := two_facts X1.out; obtain ⟨c0, c1, c2, c3⟩ := two_facts X2.out)
      | ((with_reducible refine at_load (d := some 12) 34 ?_); refine wpList_ldr_g (by kernel_rfl) 34 _ rfl ge rfl _ EA _ XE.out Tryd.underlying34 rfl hszE ?_)
      | ((with_reducible refine (hEv.out _).mono ?_); rintro e w4 ⟨rfl, hb4⟩; clear a0 a1 a2 a3 c0 c1 c2 c3; have X0 := hid (below_chain X0.out hb4); have X1 := hid (X1.out.belowS hb4); have XE := hid (XE.out.belowS hb4); have X2 := hid (X2.out.belowS hb4); have l3 := hid (show g2 < w4.heap.size by have := l3.out; have := (hb4).size; omega); obtain ⟨a0, a1, a2, a3⟩ := two_facts X1.out; obtain ⟨c0, c1, c2, c3⟩ := two_facts X2.out)
      | ((with_reducible refine at_build 24 ?_); refine wpList_bd rfl 24 rfl _ (hub_built _) ?_))
    have B := (X2.out).both (c := .int .i64 0) (d := .slice none 0 0)
    have hbf := below_both (g := g2) X0.out (.int .i64 0) (.slice none 0 0) (by have := l1.out; have := l2.out; omega)
    generalize (w4.setCell ⟨g2, 0, none⟩ (.int .i64 0)).setCell ⟨g2, 1, none⟩ (.slice none 0 0) = wf at *
    obtain ⟨g0, g1, _, _⟩ := two_facts B
    exact bodyPost_ret (v := .tuple #[.agg #[.int .i64 0, .slice none 0 0], .int .i64 2]) (by simp [results, Tryd.f21, go_sem, g0, g1]) rfl ⟨none, 0, 0, [], rfl, rfl, HOwn.nil _ _ _, hbf⟩
  · have t2 : room > 64 := hr.resolve_left t1
    clear hr
    go_wp2_with (first
      | ((with_reducible refine (hM.out _ (HH.out.below X0.out)).mono ?_); rintro e w3 ⟨rfl, hb3⟩; clear a0 a1 a2 a3 c0 c1 c2 c3; have X0 := hid (below_chain X0.out hb3); have X1 := hid (X1.out.belowS hb3); have XE := hid (XE.out.belowS hb3); have X2 := hid (X2.out.belowS hb3); have l3 := hid (show g2 < w3.heap.size by have := l3.out; have := (hb3).size; omega); obtain ⟨a0, a1, a2, a3⟩ := two_facts X1.out; obtain ⟨c0, c1, c2, c3⟩ := two_facts X2.out)
      | ((with_reducible refine at_load (d := some 12) 34 ?_); refine wpList_ldr_g (by kernel_rfl) 34 _ rfl ge rfl _ EA _ XE.out Tryd.underlying34 rfl hszE ?_)
      | ((with_reducible refine (hEv.out _).mono ?_); rintro e w4 ⟨rfl, hb4⟩; clear a0 a1 a2 a3 c0 c1 c2 c3; have X0 := hid (below_chain X0.out hb4); have X1 := hid (X1.out.belowS hb4); have XE := hid (XE.out.belowS hb4); have X2 := hid (X2.out.belowS hb4); have l3 := hid (show g2 < w4.heap.size by have := l3.out; have := (hb4).size; omega); obtain ⟨a0, a1, a2, a3⟩ := two_facts X1.out; obtain ⟨c0, c1, c2, c3⟩ := two_facts X2.out)
      | ((with_reducible refine at_build 24 ?_); refine wpList_bd rfl 24 rfl _ (hub_built _) ?_))
    have B := (X2.out).both (c := .int .i64 0) (d := .slice none 0 0)
    have hbf := below_both (g := g2) X0.out (.int .i64 0) (.slice none 0 0) (by have := l1.out; have := l2.out; omega)
    generalize (w4.setCell ⟨g2, 0, none⟩ (.int .i64 0)).setCell ⟨g2, 1, none⟩ (.slice none 0 0) = wf at *
    obtain ⟨g0, g1, _, _⟩ := two_facts B
    exact bodyPost_ret (v := .tuple #[.agg #[.int .i64 0, .slice none 0 0], .int .i64 2]) (by simp [results, Tryd.f21, go_sem, g0, g1]) rfl ⟨none, 0, 0, [], rfl, rfl, HOwn.nil _ _ _, hbf⟩

set_option maxRecDepth 100000 in
set_option maxHeartbeats 8000000 in
theorem tell24_ok (h : Hub) (A : Option Addr) (n c : Nat) (room : Int) (e : Ev) (he : HdOk e.2.2) (w : World) (hh : HubIn w h A n) (hm : hubMay h = true) (hE : evMay e = true) (h1 : 1 ≤ room) (h64 : room ≤ 64) :
    Calls Tryd.prog 21 #[.agg #[.int .i64 h.1, .slice A n c], .int .i64 room, .agg (evL e).toArray] w (GivesL w ((h.1, h.2.map (tellST room e)), 0)) := by
  have hM := hid (fun W (k : HubIn W h A n) => hmay_any h A n c W k)
  have HH := hid hh
  have hszE := ev_sizeA e he
  have hEv := hid (fun W => ev23_any e he W)
  rw [hE] at hEv
  have hTo := hid (fun W (k : HubIn W h A n) => told24_any h A n c room e he W k (by have := (hubMay_parts hm).2.1; have := hh.len; omega) (hubMay_its1 hm))
  unfold GivesH at hTo
  have hmap : h.2.map (toldST room e) = h.2.map (tellST room e) := List.map_congr_left fun s hs => told_tell hE h1 h64 (subsMay_lt (hubMay_parts hm).2.2 s hs).2.2.2
  rw [hmap] at hTo
  have t1 : ¬ room < 1 := by omega
  have t2 : ¬ room > 64 := by omega
  clear hmap
  generalize h.2.map (tellST room e) = ts at *
  rw [hm] at hM
  clear hh hm
  obtain ⟨nx, ss⟩ := h
  try dsimp only at *
  generalize hEL : (evL e).toArray = EA at *
  clear hEL
  go_enter Tryd.func21, Tryd.ntmps21
  go_upto_region 1 with (first
    | (refine wpList_bx rfl 24 _ rfl #[.int .i64 nx, .slice A n c] rfl ?_; intro w1 hB1 hb1 hy; have hz1 := hid hy; clear hy)
    | (refine wpList_bx rfl 34 _ rfl EA rfl ?_; intro w2 hB2 hb2 hy; have hz2 := hid hy; clear hy)
    | ((with_reducible refine at_alloc (d := some 6) 24 ?_); refine wpList_al rfl 24 rfl _ (hub_zero _) ?_; intro w3 hB3 hb3 hy; clear hy))
  have X0 := hid (below_chain (below_chain hb1 hb2) hb3)
  have X1 := hid ((hB1.belowS hb2).belowS hb3)
  have XE := hid (hB2.belowS hb3)
  have X2 := hid hB3
  have l1 := hid (show w.heap.size < w1.heap.size by have := hz1.out; omega)
  have l2 := hid (show w1.heap.size < w2.heap.size by have := hz2.out; omega)
  have l3 := hid hB3.lt
  clear hB1 hb1 hz1 hB2 hb2 hz2 hB3 hb3
  generalize w1.heap.size = ge at *
  generalize w2.heap.size = g2 at *
  obtain ⟨a0, a1, a2, a3⟩ := two_facts X1.out
  obtain ⟨c0, c1, c2, c3⟩ := two_facts X2.out
  go_wp2_with (first
    | ((with_reducible refine (hM.out _ (HH.out.below X0.out)).mono ?_); rintro e w3 ⟨rfl, hb3⟩; clear a0 a1 a2 a3 c0 c1 c2 c3; have X0 := hid (below_chain X0.out hb3); have X1 := hid (X1.out.belowS hb3); have XE := hid (XE.out.belowS hb3); have X2 := hid (X2.out.belowS hb3); have l3 := hid (show g2 < w3.heap.size by have := l3.out; have := (hb3).size; omega); obtain ⟨a0, a1, a2, a3⟩ := two_facts X1.out; obtain ⟨c0, c1, c2, c3⟩ := two_facts X2.out)
    | ((with_reducible refine at_load (d := some 12) 34 ?_); refine wpList_ldr_g (by kernel_rfl) 34 _ rfl ge rfl _ EA _ XE.out Tryd.underlying34 rfl hszE ?_)
    | ((with_reducible refine (hEv.out _).mono ?_); rintro e w4 ⟨rfl, hb4⟩; clear a0 a1 a2 a3 c0 c1 c2 c3; have X0 := hid (below_chain X0.out hb4); have X1 := hid (X1.out.belowS hb4); have XE := hid (XE.out.belowS hb4); have X2 := hid (X2.out.belowS hb4); have l3 := hid (show g2 < w4.heap.size by have := l3.out; have := (hb4).size; omega); obtain ⟨a0, a1, a2, a3⟩ := two_facts X1.out; obtain ⟨c0, c1, c2, c3⟩ := two_facts X2.out)
    | ((with_reducible refine at_load (d := some 26) 34 ?_); refine wpList_ldr rfl 34 _ rfl ge rfl _ EA _ XE.out Tryd.underlying34 rfl hszE ?_)
    | ((with_reducible refine (hTo.out _ (HH.out.below X0.out)).mono ?_); rintro e w5 ⟨D, m, d, rs, rfl, hsub, hO, hb5⟩; have HO := hid hO; have l4 := hid (show g2 < w4.heap.size from l3.out); clear a0 a1 a2 a3 c0 c1 c2 c3; have X0 := hid (below_chain X0.out hb5); have X1 := hid (X1.out.belowS hb5); have XE := hid (XE.out.belowS hb5); have X2 := hid (X2.out.belowS hb5); have l3 := hid (show g2 < w5.heap.size by have := l3.out; have := (hb5).size; omega); obtain ⟨a0, a1, a2, a3⟩ := two_facts X1.out; obtain ⟨c0, c1, c2, c3⟩ := two_facts X2.out))
  have B := (X2.out).both (c := .int .i64 nx) (d := .slice D m d)
  have hbf := below_both (g := g2) X0.out (.int .i64 nx) (.slice D m d) (by have := l1.out; have := l2.out; omega)
  have hC := chg_both w5 g2 (.int .i64 nx) (.slice D m d)
  have hOf := HO.out.chg hC (fun b hb e => by have e2 : b = g2 := e; have := l4.out; omega)
  generalize (w5.setCell ⟨g2, 0, none⟩ (.int .i64 nx)).setCell ⟨g2, 1, none⟩ (.slice D m d) = wf at *
  obtain ⟨g0, g1, _, _⟩ := two_facts B
  exact bodyPost_ret (v := .tuple #[.agg #[.int .i64 nx, .slice D m d], .int .i64 0]) (by simp [results, Tryd.f21, go_sem, g0, g1]) rfl ⟨D, m, d, rs, rfl, hsub, hOf.low (by have := l1.out; have := l2.out; have := l4.out; omega), hbf⟩

theorem tell24_any (h : Hub) (A : Option Addr) (n c : Nat) (room : Int) (e : Ev) (he : HdOk e.2.2) (w : World) (hh : HubIn w h A n) :
    Calls Tryd.prog 21 #[.agg #[.int .i64 h.1, .slice A n c], .int .i64 room, .agg (evL e).toArray] w (GivesL w (tellT h room e)) := by
  unfold tellT
  cases hm : hubMay h with
  | false => exact tell24_bad h A n c room e he w hh hm
  | true =>
    rw [if_pos rfl, push_code]
    cases hE : evMay e with
    | false => exact tell24_ev h A n c room e he w hh hm hE
    | true =>
      rw [if_pos rfl]
      by_cases hr : 1 ≤ room ∧ room ≤ 64
      · rw [if_pos hr, if_pos rfl]
        exact tell24_ok h A n c room e he w hh hm hE hr.1 hr.2
      · rw [if_neg hr, if_neg (by decide)]
        exact tell24_room h A n c room e he w hh hm hE (by omega)
end Go.Proofs.YtmepbokoopgmiaaDoor
