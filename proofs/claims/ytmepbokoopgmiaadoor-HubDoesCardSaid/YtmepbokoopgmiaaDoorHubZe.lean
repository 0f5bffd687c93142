/-
  Contract of the reference's Join of a hub. No condition beyond those each theorem names.
-/
import Derived.Test.YtmepbokoopgmiaaDoorHubZd
namespace Go.Proofs.YtmepbokoopgmiaaDoor
open Go.RowKit
set_option linter.unusedSimpArgs false
set_option linter.unusedVariables false

set_option maxRecDepth 100000 in
set_option maxHeartbeats 8000000 in
theorem join24_bad (h : Hub) (A : Option Addr) (n c : Nat) (most fr : Int) (w : World) (hh : HubIn w h A n) (hm : hubMay h = false) :
    Calls Tryd.prog 18 #[.agg #[.int .i64 h.1, .slice A n c], .int .i64 most, .int .i64 fr] w (GivesJ w (zeroHub, 0, 8)) := by
  have hM := hid (fun W (k : HubIn W h A n) => hmay_any h A n c W k)
  rw [hm] at hM
  have HH := hid hh
  clear hh hm
  obtain ⟨nx, ss⟩ := h
  try dsimp only at *
  go_enter Tryd.func18, Tryd.ntmps18
  go_upto_region 1 with (first
    | (refine wpList_bx rfl 24 _ rfl #[.int .i64 nx, .slice A n c] rfl ?_; intro w1 hB1 hb1 hy; have hz1 := hid hy; clear hy)
    | ((with_reducible refine at_alloc (d := some 6) 24 ?_); refine wpList_al rfl 24 rfl _ (hub_zero _) ?_; intro w2 hB2 hb2 hy; clear hy))
  have X0 := hid (below_chain hb1 hb2)
  have X1 := hid (hB1.belowS hb2)
  have X2 := hid hB2
  have l1 := hid (show w.heap.size < w1.heap.size by have := hz1.out; omega)
  have l2 := hid hB2.lt
  clear hB1 hb1 hz1 hB2 hb2
  generalize w1.heap.size = g2 at *
  obtain ⟨a0, a1, a2, a3⟩ := two_facts X1.out
  obtain ⟨c0, c1, c2, c3⟩ := two_facts X2.out
  go_wp2_with (first
    | ((with_reducible refine (hM.out _ (HH.out.below X0.out)).mono ?_); rintro e w3 ⟨rfl, hb3⟩; clear a0 a1 a2 a3 c0 c1 c2 c3; have X0 := hid (below_chain X0.out hb3); have X1 := hid (X1.out.belowS hb3); have X2 := hid (X2.out.belowS hb3); have l2 := hid (show g2 < w3.heap.size by have := l2.out; have := hb3.size; omega); obtain ⟨a0, a1, a2, a3⟩ := two_facts X1.out; obtain ⟨c0, c1, c2, c3⟩ := two_facts X2.out)
    | ((with_reducible refine at_build 24 ?_); refine wpList_bd rfl 24 rfl _ (hub_built _) ?_))
  have B := (X2.out).both (c := .int .i64 0) (d := .slice none 0 0)
  have hbf := below_both (g := g2) (X0.out) (.int .i64 0) (.slice none 0 0) (by have := l1.out; omega)
  generalize (w3.setCell ⟨g2, 0, none⟩ (.int .i64 0)).setCell ⟨g2, 1, none⟩ (.slice none 0 0) = wf at *
  obtain ⟨g0, g1, _, _⟩ := two_facts B
  exact bodyPost_ret (v := .tuple #[.agg #[.int .i64 0, .slice none 0 0], .int .i64 0, .int .i64 8]) (by simp [results, Tryd.f18, go_sem, g0, g1]) rfl ⟨none, 0, 0, [], rfl, rfl, HOwn.nil _ _ _, hbf⟩

set_option maxRecDepth 100000 in
set_option maxHeartbeats 8000000 in
theorem join24_arg (h : Hub) (A : Option Addr) (n c : Nat) (most fr : Int) (w : World) (hh : HubIn w h A n) (hm : hubMay h = true) (hA : most < 1 ∨ 16 < most ∨ fr < 0 ∨ 1073741824 ≤ fr) :
    Calls Tryd.prog 18 #[.agg #[.int .i64 h.1, .slice A n c], .int .i64 most, .int .i64 fr] w (GivesJ w (zeroHub, 0, 2)) := by
  have hM := hid (fun W (k : HubIn W h A n) => hmay_any h A n c W k)
  rw [hm] at hM
  have HH := hid hh
  clear hh hm
  obtain ⟨nx, ss⟩ := h
  try dsimp only at *
  go_enter Tryd.func18, Tryd.ntmps18
  go_upto_region 1 with (first
    | (refine wpList_bx rfl 24 _ rfl #[.int .i64 nx, .slice A n c] rfl ?_; intro w1 hB1 hb1 hy; have hz1 := hid hy; clear hy)
    | ((with_reducible refine at_alloc (d := some 6) 24 ?_); refine wpList_al rfl 24 rfl _ (hub_zero _) ?_; intro w2 hB2 hb2 hy; clear hy))
  have X0 := hid (below_chain hb1 hb2)
  have X1 := hid (hB1.belowS hb2)
  have X2 := hid hB2
  have l1 := hid (show w.heap.size < w1.heap.size by have := hz1.out; omega)
  have l2 := hid hB2.lt
  clear hB1 hb1 hz1 hB2 hb2
  generalize w1.heap.size = g2 at *
  obtain ⟨a0, a1, a2, a3⟩ := two_facts X1.out
  obtain ⟨c0, c1, c2, c3⟩ := two_facts X2.out
  by_cases t1 : most < 1
  · clear hA
    go_wp2_with (first
      | ((with_reducible refine (hM.out _ (HH.out.below X0.out)).mono ?_); rintro e w3 ⟨rfl, hb3⟩; clear a0 a1 a2 a3 c0 c1 c2 c3; have X0 := hid (below_chain X0.out hb3); have X1 := hid (X1.out.belowS hb3); have X2 := hid (X2.out.belowS hb3); have l2 := hid (show g2 < w3.heap.size by have := l2.out; have := hb3.size; omega); obtain ⟨a0, a1, a2, a3⟩ := two_facts X1.out; obtain ⟨c0, c1, c2, c3⟩ := two_facts X2.out)
      | ((with_reducible refine at_build 24 ?_); refine wpList_bd rfl 24 rfl _ (hub_built _) ?_))
    have B := (X2.out).both (c := .int .i64 0) (d := .slice none 0 0)
    have hbf := below_both (g := g2) (X0.out) (.int .i64 0) (.slice none 0 0) (by have := l1.out; omega)
    generalize (w3.setCell ⟨g2, 0, none⟩ (.int .i64 0)).setCell ⟨g2, 1, none⟩ (.slice none 0 0) = wf at *
    obtain ⟨g0, g1, _, _⟩ := two_facts B
    exact bodyPost_ret (v := .tuple #[.agg #[.int .i64 0, .slice none 0 0], .int .i64 0, .int .i64 2]) (by simp [results, Tryd.f18, go_sem, g0, g1]) rfl ⟨none, 0, 0, [], rfl, rfl, HOwn.nil _ _ _, hbf⟩
  by_cases t2 : most > 16
  · clear hA
    go_wp2_with (first
      | ((with_reducible refine (hM.out _ (HH.out.below X0.out)).mono ?_); rintro e w3 ⟨rfl, hb3⟩; clear a0 a1 a2 a3 c0 c1 c2 c3; have X0 := hid (below_chain X0.out hb3); have X1 := hid (X1.out.belowS hb3); have X2 := hid (X2.out.belowS hb3); have l2 := hid (show g2 < w3.heap.size by have := l2.out; have := hb3.size; omega); obtain ⟨a0, a1, a2, a3⟩ := two_facts X1.out; obtain ⟨c0, c1, c2, c3⟩ := two_facts X2.out)
      | ((with_reducible refine at_build 24 ?_); refine wpList_bd rfl 24 rfl _ (hub_built _) ?_))
    have B := (X2.out).both (c := .int .i64 0) (d := .slice none 0 0)
    have hbf := below_both (g := g2) (X0.out) (.int .i64 0) (.slice none 0 0) (by have := l1.out; omega)
    generalize (w3.setCell ⟨g2, 0, none⟩ (.int .i64 0)).setCell ⟨g2, 1, none⟩ (.slice none 0 0) = wf at *
    obtain ⟨g0, g1, _, _⟩ := two_facts B
    exact bodyPost_ret (v := .tuple #[.agg #[.int .i64 0, .slice none 0 0], .int .i64 0, .int .i64 2]) (by simp [results, Tryd.f18, go_sem, g0, g1]) rfl ⟨none, 0, 0, [], rfl, rfl, HOwn.nil _ _ _, hbf⟩
  by_cases t3 : fr < 0
  · clear hA
    go_wp2_with (first
      | ((with_reducible refine (hM.out _ (HH.out.below X0.out)).mono ?_); rintro e w3 ⟨rfl, hb3⟩; clear a0 a1 a2 a3 c0 c1 c2 c3; have X0 := hid (below_chain X0.out hb3); have X1 := hid (X1.out.belowS hb3); have X2 := hid (X2.out.belowS hb3); have l2 := hid (show g2 < w3.heap.size by have := l2.out; have := hb3.size; omega); obtain ⟨a0, a1, a2, a3⟩ := two_facts X1.out; obtain ⟨c0, c1, c2, c3⟩ := two_facts X2.out)
      | ((with_reducible refine at_build 24 ?_); refine wpList_bd rfl 24 rfl _ (hub_built _) ?_))
    have B := (X2.out).both (c := .int .i64 0) (d := .slice none 0 0)
    have hbf := below_both (g := g2) (X0.out) (.int .i64 0) (.slice none 0 0) (by have := l1.out; omega)
    generalize (w3.setCell ⟨g2, 0, none⟩ (.int .i64 0)).setCell ⟨g2, 1, none⟩ (.slice none 0 0) = wf at *
    obtain ⟨g0, g1, _, _⟩ := two_facts B
    exact bodyPost_ret (v := .tuple #[.agg #[.int .i64 0, .slice none 0 0], .int .i64 0, .int .i64 2]) (by simp [results, Tryd.f18, go_sem, g0, g1]) rfl ⟨none, 0, 0, [], rfl, rfl, HOwn.nil _ _ _, hbf⟩
  have t4 : fr ≥ 1073741824 := by omega
  clear hA
  go_wp2_with (first
    | ((with_reducible refine (hM.out _ (HH.out.below X0.out)).mono ?_); rintro e w3 ⟨rfl, hb3⟩; clear a0 a1 a2 a3 c0 c1 c2 c3; have X0 := hid (below_chain X0.out hb3); have X1 := hid (X1.out.belowS hb3); have X2 := hid (X2.out.belowS hb3); have l2 := hid (show g2 < w3.heap.size by have := l2.out; have := hb3.size; omega); obtain ⟨a0, a1, a2, a3⟩ := two_facts X1.out; obtain ⟨c0, c1, c2, c3⟩ := two_facts X2.out)
    | ((with_reducible refine at_build 24 ?_); refine wpList_bd rfl 24 rfl _ (hub_built _) ?_))
  have B := (X2.out).both (c := .int .i64 0) (d := .slice none 0 0)
  have hbf := below_both (g := g2) (X0.out) (.int .i64 0) (.slice none 0 0) (by have := l1.out; omega)
  generalize (w3.setCell ⟨g2, 0, none⟩ (.int .i64 0)).setCell ⟨g2, 1, none⟩ (.slice none 0 0) = wf at *
  obtain ⟨g0, g1, _, _⟩ := two_facts B
  exact bodyPost_ret (v := .tuple #[.agg #[.int .i64 0, .slice none 0 0], .int .i64 0, .int .i64 2]) (by simp [results, Tryd.f18, go_sem, g0, g1]) rfl ⟨none, 0, 0, [], rfl, rfl, HOwn.nil _ _ _, hbf⟩

set_option maxRecDepth 100000 in
set_option maxHeartbeats 8000000 in
theorem join24_full (h : Hub) (A : Option Addr) (n c : Nat) (most fr : Int) (w : World) (hh : HubIn w h A n) (hm : hubMay h = true) (q1 : 1 ≤ most) (q2 : most ≤ 16) (q3 : 0 ≤ fr) (q4 : fr < 1073741824) (hq : addedT h most fr = (zeroHub, false)) :
    Calls Tryd.prog 18 #[.agg #[.int .i64 h.1, .slice A n c], .int .i64 most, .int .i64 fr] w (GivesJ w (zeroHub, 0, 9)) := by
  have hM := hid (fun W (k : HubIn W h A n) => hmay_any h A n c W k)
  rw [hm] at hM
  have HH := hid hh
  have hAd := hid (fun W (k : HubIn W h A n) => added_any h A n c most fr W k hm)
  rw [hq] at hAd
  unfold GivesA at hAd
  have t1 : ¬ most < 1 := by omega
  have t2 : ¬ most > 16 := by omega
  have t3 : ¬ fr < 0 := by omega
  have t4 : ¬ fr ≥ 1073741824 := by omega
  clear hq
  clear hh hm
  obtain ⟨nx, ss⟩ := h
  try dsimp only at *
  go_enter Tryd.func18, Tryd.ntmps18
  go_upto_region 1 with (first
    | (refine wpList_bx rfl 24 _ rfl #[.int .i64 nx, .slice A n c] rfl ?_; intro w1 hB1 hb1 hy; have hz1 := hid hy; clear hy)
    | ((with_reducible refine at_alloc (d := some 6) 24 ?_); refine wpList_al rfl 24 rfl _ (hub_zero _) ?_; intro w2 hB2 hb2 hy; clear hy))
  have X0 := hid (below_chain hb1 hb2)
  have X1 := hid (hB1.belowS hb2)
  have X2 := hid hB2
  have l1 := hid (show w.heap.size < w1.heap.size by have := hz1.out; omega)
  have l2 := hid hB2.lt
  clear hB1 hb1 hz1 hB2 hb2
  generalize w1.heap.size = g2 at *
  obtain ⟨a0, a1, a2, a3⟩ := two_facts X1.out
  obtain ⟨c0, c1, c2, c3⟩ := two_facts X2.out
  go_wp2_with (first
    | ((with_reducible refine (hM.out _ (HH.out.below X0.out)).mono ?_); rintro e w3 ⟨rfl, hb3⟩; clear a0 a1 a2 a3 c0 c1 c2 c3; have X0 := hid (below_chain X0.out hb3); have X1 := hid (X1.out.belowS hb3); have X2 := hid (X2.out.belowS hb3); have l2 := hid (show g2 < w3.heap.size by have := l2.out; have := hb3.size; omega); obtain ⟨a0, a1, a2, a3⟩ := two_facts X1.out; obtain ⟨c0, c1, c2, c3⟩ := two_facts X2.out)
    | ((with_reducible refine (hAd.out _ (HH.out.below X0.out)).mono ?_); rintro e w4 ⟨D, m, d, rs, rfl, hsub, hO, hb4⟩)
    | ((with_reducible refine at_alloc (d := some 9) 24 ?_); refine wpList_al rfl 24 rfl _ (hub_zero _) ?_; intro w5 hB5 hb5 hy; clear hy)
    | ((with_reducible refine at_store (x := .tmp 9) 24 ?_); refine wpList_str rfl 24 _ _ rfl w4.heap.size _ rfl rfl _ _ hB5 rfl (hub_size _ _) (one_hub _ _ _ _) ?_; intro w6 hB6 hg6 hy; clear hy; have hq6 : Below w4.heap.size w4 w6 := hb5.grown hg6 hb5.size (by intro k e; cases e; exact Nat.le_refl _); have hq := below_chain hb4 hq6; clear a0 a1 a2 a3 c0 c1 c2 c3; have X0 := hid (below_chain X0.out hq); have X1 := hid (X1.out.belowS hq); have X2 := hid (X2.out.belowS hq); have HO := hid (hO.below hq6); have X9 := hid hB6; have l3 := hid hb4.size; clear hO hb4 hB5 hb5 hB6 hg6 hq6 hq; obtain ⟨a0, a1, a2, a3⟩ := two_facts X1.out; obtain ⟨c0, c1, c2, c3⟩ := two_facts X2.out; obtain ⟨b0, b1, b2, b3⟩ := two_facts X9.out)
    | ((with_reducible refine at_build 24 ?_); refine wpList_bd rfl 24 rfl _ (hub_built _) ?_))
  have B := (X2.out).both (c := .int .i64 0) (d := .slice none 0 0)
  have hbf := below_both (g := g2) (X0.out) (.int .i64 0) (.slice none 0 0) (by have := l1.out; omega)
  generalize (w6.setCell ⟨g2, 0, none⟩ (.int .i64 0)).setCell ⟨g2, 1, none⟩ (.slice none 0 0) = wf at *
  obtain ⟨g0, g1, _, _⟩ := two_facts B
  exact bodyPost_ret (v := .tuple #[.agg #[.int .i64 0, .slice none 0 0], .int .i64 0, .int .i64 9]) (by simp [results, Tryd.f18, go_sem, g0, g1]) rfl ⟨none, 0, 0, [], rfl, rfl, HOwn.nil _ _ _, hbf⟩

set_option maxRecDepth 100000 in
set_option maxHeartbeats 8000000 in
theorem join24_ok (h : Hub) (A : Option Addr) (n c : Nat) (most fr : Int) (w : World) (hh : HubIn w h A n) (hm : hubMay h = true) (q1 : 1 ≤ most) (q2 : most ≤ 16) (q3 : 0 ≤ fr) (q4 : fr < 1073741824) (hq : addedT h most fr = ((h.1 + 1, h.2 ++ [(h.1, fr, [], false)]), true)) :
    Calls Tryd.prog 18 #[.agg #[.int .i64 h.1, .slice A n c], .int .i64 most, .int .i64 fr] w (GivesJ w ((h.1 + 1, h.2 ++ [(h.1, fr, [], false)]), h.1, 0)) := by
  have hM := hid (fun W (k : HubIn W h A n) => hmay_any h A n c W k)
  rw [hm] at hM
  have HH := hid hh
  have hAd := hid (fun W (k : HubIn W h A n) => added_any h A n c most fr W k hm)
  rw [hq] at hAd
  unfold GivesA at hAd
  have t1 : ¬ most < 1 := by omega
  have t2 : ¬ most > 16 := by omega
  have t3 : ¬ fr < 0 := by omega
  have t4 : ¬ fr ≥ 1073741824 := by omega
  clear hq
  clear hh hm
  obtain ⟨nx, ss⟩ := h
  try dsimp only at *
  go_enter Tryd.func18, Tryd.ntmps18
  go_upto_region 1 with (first
    | (refine wpList_bx rfl 24 _ rfl #[.int .i64 nx, .slice A n c] rfl ?_; intro w1 hB1 hb1 hy; have hz1 := hid hy; clear hy)
    | ((with_reducible refine at_alloc (d := some 6) 24 ?_); refine wpList_al rfl 24 rfl _ (hub_zero _) ?_; intro w2 hB2 hb2 hy; clear hy))
  have X0 := hid (below_chain hb1 hb2)
  have X1 := hid (hB1.belowS hb2)
  have X2 := hid hB2
  have l1 := hid (show w.heap.size < w1.heap.size by have := hz1.out; omega)
  have l2 := hid hB2.lt
  clear hB1 hb1 hz1 hB2 hb2
  generalize w1.heap.size = g2 at *
  obtain ⟨a0, a1, a2, a3⟩ := two_facts X1.out
  obtain ⟨c0, c1, c2, c3⟩ := two_facts X2.out
  go_wp2_with (first
    | ((with_reducible refine (hM.out _ (HH.out.below X0.out)).mono ?_); rintro e w3 ⟨rfl, hb3⟩; clear a0 a1 a2 a3 c0 c1 c2 c3; have X0 := hid (below_chain X0.out hb3); have X1 := hid (X1.out.belowS hb3); have X2 := hid (X2.out.belowS hb3); have l2 := hid (show g2 < w3.heap.size by have := l2.out; have := hb3.size; omega); obtain ⟨a0, a1, a2, a3⟩ := two_facts X1.out; obtain ⟨c0, c1, c2, c3⟩ := two_facts X2.out)
    | ((with_reducible refine (hAd.out _ (HH.out.below X0.out)).mono ?_); rintro e w4 ⟨D, m, d, rs, rfl, hsub, hO, hb4⟩)
    | ((with_reducible refine at_alloc (d := some 9) 24 ?_); refine wpList_al rfl 24 rfl _ (hub_zero _) ?_; intro w5 hB5 hb5 hy; clear hy)
    | ((with_reducible refine at_store (x := .tmp 9) 24 ?_); refine wpList_str rfl 24 _ _ rfl w4.heap.size _ rfl rfl _ _ hB5 rfl (hub_size _ _) (one_hub _ _ _ _) ?_; intro w6 hB6 hg6 hy; clear hy; have hq6 : Below w4.heap.size w4 w6 := hb5.grown hg6 hb5.size (by intro k e; cases e; exact Nat.le_refl _); have hq := below_chain hb4 hq6; clear a0 a1 a2 a3 c0 c1 c2 c3; have X0 := hid (below_chain X0.out hq); have X1 := hid (X1.out.belowS hq); have X2 := hid (X2.out.belowS hq); have HO := hid (hO.below hq6); have X9 := hid hB6; have l3 := hid hb4.size; clear hO hb4 hB5 hb5 hB6 hg6 hq6 hq; obtain ⟨a0, a1, a2, a3⟩ := two_facts X1.out; obtain ⟨c0, c1, c2, c3⟩ := two_facts X2.out; obtain ⟨b0, b1, b2, b3⟩ := two_facts X9.out))
  have n1 : w.heap.size ≠ g2 := by have := l1.out; omega
  have n2 : w4.heap.size ≠ g2 := by have := l2.out; have := l3.out; omega
  have Z2 := X2.out.drew
  refine wp_region_held_drew (S := (fun w' => w'.cell? ⟨w4.heap.size, 0, none⟩ = some (.int .i64 (nx + 1)) ∧ w'.cell? ⟨w4.heap.size, 1, none⟩ = some (.slice D m d) ∧ w'.cell? ⟨w.heap.size, 0, none⟩ = some (.int .i64 nx))) (by kernel_rfl) ⟨b0, b1, a0⟩ (fun hHeld => ?_)
  refine reg_take (v := ?_) 0 rfl (by kernel_rfl) (by kernel_rfl) (by kernel_rfl) (fun _ _ _ h => h) (Or.inl ⟨by rfl, ?_⟩) (by assumption) ?_; rotate_left; (intro w hSw; (try dsimp only at hSw); go_simp); (try with_reducible rfl); (try simp only [Act.put, List.setIfInBounds_toArray, List.set_cons_zero, List.set_cons_succ])
  refine reg_take (v := ?_) 1 rfl (by kernel_rfl) (by kernel_rfl) (by kernel_rfl) (fun _ _ _ h => h) (Or.inl ⟨by rfl, ?_⟩) (by assumption) ?_; rotate_left; (intro w hSw; (try dsimp only at hSw); go_simp); (try with_reducible rfl); (try simp only [Act.put, List.setIfInBounds_toArray, List.set_cons_zero, List.set_cons_succ])
  refine reg_take (v := ?_) 2 rfl (by kernel_rfl) (by kernel_rfl) (by kernel_rfl) (fun _ _ _ h => h) (Or.inl ⟨by rfl, ?_⟩) (by assumption) ?_; rotate_left; (intro w hSw; (try dsimp only at hSw); go_simp); (try with_reducible rfl); (try simp only [Act.put, List.setIfInBounds_toArray, List.set_cons_zero, List.set_cons_succ])
  refine reg_only 3 rfl (by kernel_rfl) (fun K hK => ?_); refine step_str rfl 24 _ _ rfl g2 #[.int .i64 (nx + 1), .slice D m d] rfl rfl _ _ Z2 rfl (hub_size _ _) (one_hub _ _ _ _) ?_; intro w9 hB9 hg9 hy; clear hy; have Z1 := X1.out.drew.grown hg9 (by simp; omega); have Z9 := X9.out.drew.grown hg9 (by simp; omega); obtain ⟨q0, q1, _, _⟩ := two_facts hB9; obtain ⟨r0, _, _, _⟩ := two_facts Z1; obtain ⟨u0, u1, _, _⟩ := two_facts Z9; refine hK.out _ _ ?_ (fun hHeld => ?_); (exact ⟨u0, u1, r0⟩); clear hK K; (try simp only [Act.put, List.setIfInBounds_toArray, List.set_cons_zero, List.set_cons_succ])
  refine reg_take (v := ?_) 4 rfl (by kernel_rfl) (by kernel_rfl) (by kernel_rfl) (fun _ _ _ h => h) (Or.inl ⟨by rfl, ?_⟩) (by assumption) ?_; rotate_left; (intro w hSw; (try dsimp only at hSw); go_simp); (try with_reducible rfl); (try simp only [Act.put, List.setIfInBounds_toArray, List.set_cons_zero, List.set_cons_succ])
  refine reg_take (v := ?_) 5 rfl (by kernel_rfl) (by kernel_rfl) (by kernel_rfl) (fun _ _ _ h => h) (Or.inl ⟨by rfl, ?_⟩) (by assumption) ?_; rotate_left; (intro w hSw; (try dsimp only at hSw); go_simp); (try with_reducible rfl); (try simp only [Act.put, List.setIfInBounds_toArray, List.set_cons_zero, List.set_cons_succ])
  refine wpAnyH_done (by kernel_rfl) ?_ _
  have hHf := (show HOwn w6.drew w3.heap.size D m d rs from HO.out.below (below_self_drew w6)).grown hg9 l2.out
  have hbf := below_set (below_drew1 X0.out) hg9 (by have := l1.out; omega)
  have hlo := hid (show w.heap.size ≤ w3.heap.size by have := l1.out; have := l2.out; omega)
  go_wp2
  exact bodyPost_ret (v := .tuple #[.agg #[.int .i64 (nx + 1), .slice D m d], .int .i64 nx, .int .i64 0]) (by simp [results, Tryd.f18, go_sem, q0, q1]) rfl ⟨D, m, d, rs, rfl, hsub, hHf.low hlo.out, hbf⟩

theorem join24_any (h : Hub) (A : Option Addr) (n c : Nat) (most fr : Int) (w : World) (hh : HubIn w h A n) :
    Calls Tryd.prog 18 #[.agg #[.int .i64 h.1, .slice A n c], .int .i64 most, .int .i64 fr] w (GivesJ w (joinT h most fr)) := by
  unfold joinT
  cases hm : hubMay h with
  | false => exact join24_bad h A n c most fr w hh hm
  | true =>
    rw [if_pos rfl]
    have hnx := isNum_iff.1 (hubMay_parts hm).1
    by_cases hA : most < 1 ∨ 16 < most ∨ fr < 0 ∨ 1073741824 ≤ fr
    · rw [if_neg (fun k => by have := isNum_iff.1 k.2.2; omega)]
      exact join24_arg h A n c most fr w hh hm hA
    · have q : 1 ≤ most ∧ most ≤ 16 ∧ 0 ≤ fr ∧ fr < 1073741824 := by omega
      rw [if_pos ⟨q.1, q.2.1, isNum_iff.2 q.2.2⟩]
      by_cases hf : (h.2.length : Int) < most ∧ isNum (h.1 + 1) = true
      · rw [if_pos hf]
        have := isNum_iff.1 hf.2
        exact join24_ok h A n c most fr w hh hm q.1 q.2.1 q.2.2.1 q.2.2.2 (by unfold addedT; rw [if_pos ⟨hf.1, by omega⟩])
      · rw [if_neg hf]
        refine join24_full h A n c most fr w hh hm q.1 q.2.1 q.2.2.1 q.2.2.2 (by unfold addedT; rw [if_neg (fun k => hf ⟨k.1, isNum_iff.2 ⟨by omega, ?_⟩⟩)]; have := k.2; have := hnx.2; omega)
end Go.Proofs.YtmepbokoopgmiaaDoor
