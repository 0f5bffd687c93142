/-
  Contract of the reference's Leave of a hub. No condition beyond those each theorem names.
-/
import Derived.Test.YtmepbokoopgmiaaDoorHubZf
namespace Go.Proofs.YtmepbokoopgmiaaDoor
open Go.RowKit
set_option linter.unusedSimpArgs false
set_option linter.unusedVariables false

set_option maxRecDepth 100000 in
set_option maxHeartbeats 8000000 in
theorem leave24_bad (h : Hub) (A : Option Addr) (n c : Nat) (id : Int) (w : World) (hh : HubIn w h A n) (hm : hubMay h = false) :
    Calls Tryd.prog 19 #[.agg #[.int .i64 h.1, .slice A n c], .int .i64 id] w (GivesL w (zeroHub, 8)) := by
  have hM := hid (fun W (k : HubIn W h A n) => hmay_any h A n c W k)
  have HH := hid hh
  rw [hm] at hM
  clear hh hm
  obtain ⟨nx, ss⟩ := h
  try dsimp only at *
  go_enter Tryd.func19, Tryd.ntmps19
  go_upto_region 1 with (first
    | (refine wpList_bx rfl 24 _ rfl #[.int .i64 nx, .slice A n c] rfl ?_; intro w1 hB1 hb1 hy; have hz1 := hid hy; clear hy)
    | ((with_reducible refine at_alloc (d := some 4) 24 ?_); refine wpList_al rfl 24 rfl _ (hub_zero _) ?_; intro w2 hB2 hb2 hy; clear hy))
  have X0 := hid (below_chain hb1 hb2)
  have X1 := hid (hB1.belowS hb2)
  have X2 := hid hB2
  have l1 := hid (show w.heap.size < w1.heap.size by have := hz1.out; omega)
  have l2 := hid hB2.lt
  clear hB1 hb1 hz1 hB2 hb2
  generalize w1.heap.size = g2 at *
  obtain ⟨a0, a1, a2, a3⟩ := two_facts X1.out
  obtain ⟨c0, c1, c2, c3⟩ := two_facts X2.out
  go_wp2_with (first
    | ((with_reducible refine (hM.out _ (HH.out.below X0.out)).mono ?_); rintro e w3 ⟨rfl, hb3⟩; clear a0 a1 a2 a3 c0 c1 c2 c3; have X0 := hid (below_chain X0.out hb3); have X1 := hid (X1.out.belowS hb3); have X2 := hid (X2.out.belowS hb3); have l2 := hid (show g2 < w3.heap.size by have := l2.out; have := hb3.size; omega); obtain ⟨a0, a1, a2, a3⟩ := two_facts X1.out; obtain ⟨c0, c1, c2, c3⟩ := two_facts X2.out)
    | ((with_reducible refine at_build 24 ?_); refine wpList_bd rfl 24 rfl _ (hub_built _) ?_))
  have B := (X2.out).both (c := .int .i64 0) (d := .slice none 0 0)
  have hbf := below_both (g := g2) (X0.out) (.int .i64 0) (.slice none 0 0) (by have := l1.out; omega)
  generalize (w3.setCell ⟨g2, 0, none⟩ (.int .i64 0)).setCell ⟨g2, 1, none⟩ (.slice none 0 0) = wf at *
  obtain ⟨g0, g1, _, _⟩ := two_facts B
  exact bodyPost_ret (v := .tuple #[.agg #[.int .i64 0, .slice none 0 0], .int .i64 8]) (by simp [results, Tryd.f19, go_sem, g0, g1]) rfl ⟨none, 0, 0, [], rfl, rfl, HOwn.nil _ _ _, hbf⟩

set_option maxRecDepth 100000 in
set_option maxHeartbeats 8000000 in
theorem leave24_none (h : Hub) (A : Option Addr) (n c : Nat) (id : Int) (w : World) (hh : HubIn w h A n) (hm : hubMay h = true) (hp : ¬ place id h.2 < h.2.length) :
    Calls Tryd.prog 19 #[.agg #[.int .i64 h.1, .slice A n c], .int .i64 id] w (GivesL w (zeroHub, 2)) := by
  have hM := hid (fun W (k : HubIn W h A n) => hmay_any h A n c W k)
  have HH := hid hh
  have hn16 := (hubMay_parts hm).2.1
  have hln := hh.len
  have hFi := hid (fun W (k : HubIn W h A n) => find24_any h A n c id W k (by omega))
  unfold GivesN at hFi
  have hpl : plT h.2 id = -1 := by unfold plT; rw [if_neg hp]
  rw [hpl] at hFi
  clear hp hpl hln hn16
  rw [hm] at hM
  clear hh hm
  obtain ⟨nx, ss⟩ := h
  try dsimp only at *
  go_enter Tryd.func19, Tryd.ntmps19
  go_upto_region 1 with (first
    | (refine wpList_bx rfl 24 _ rfl #[.int .i64 nx, .slice A n c] rfl ?_; intro w1 hB1 hb1 hy; have hz1 := hid hy; clear hy)
    | ((with_reducible refine at_alloc (d := some 4) 24 ?_); refine wpList_al rfl 24 rfl _ (hub_zero _) ?_; intro w2 hB2 hb2 hy; clear hy))
  have X0 := hid (below_chain hb1 hb2)
  have X1 := hid (hB1.belowS hb2)
  have X2 := hid hB2
  have l1 := hid (show w.heap.size < w1.heap.size by have := hz1.out; omega)
  have l2 := hid hB2.lt
  clear hB1 hb1 hz1 hB2 hb2
  generalize w1.heap.size = g2 at *
  obtain ⟨a0, a1, a2, a3⟩ := two_facts X1.out
  obtain ⟨c0, c1, c2, c3⟩ := two_facts X2.out
  go_wp2_with (first
    | ((with_reducible refine (hM.out _ (HH.out.below X0.out)).mono ?_); rintro e w3 ⟨rfl, hb3⟩; clear a0 a1 a2 a3 c0 c1 c2 c3; have X0 := hid (below_chain X0.out hb3); have X1 := hid (X1.out.belowS hb3); have X2 := hid (X2.out.belowS hb3); have l2 := hid (show g2 < w3.heap.size by have := l2.out; have := hb3.size; omega); obtain ⟨a0, a1, a2, a3⟩ := two_facts X1.out; obtain ⟨c0, c1, c2, c3⟩ := two_facts X2.out)
    | ((with_reducible refine (hFi.out _ (HH.out.below X0.out)).mono ?_); rintro e w4 ⟨rfl, hb4⟩; clear a0 a1 a2 a3 c0 c1 c2 c3; have X0 := hid (below_chain X0.out hb4); have X1 := hid (X1.out.belowS hb4); have X2 := hid (X2.out.belowS hb4); have l2 := hid (show g2 < w4.heap.size by have := l2.out; have := hb4.size; omega); obtain ⟨a0, a1, a2, a3⟩ := two_facts X1.out; obtain ⟨c0, c1, c2, c3⟩ := two_facts X2.out)
    | ((with_reducible refine at_build 24 ?_); refine wpList_bd rfl 24 rfl _ (hub_built _) ?_))
  have B := (X2.out).both (c := .int .i64 0) (d := .slice none 0 0)
  have hbf := below_both (g := g2) (X0.out) (.int .i64 0) (.slice none 0 0) (by have := l1.out; omega)
  generalize (w4.setCell ⟨g2, 0, none⟩ (.int .i64 0)).setCell ⟨g2, 1, none⟩ (.slice none 0 0) = wf at *
  obtain ⟨g0, g1, _, _⟩ := two_facts B
  exact bodyPost_ret (v := .tuple #[.agg #[.int .i64 0, .slice none 0 0], .int .i64 2]) (by simp [results, Tryd.f19, go_sem, g0, g1]) rfl ⟨none, 0, 0, [], rfl, rfl, HOwn.nil _ _ _, hbf⟩

set_option maxRecDepth 100000 in
set_option maxHeartbeats 8000000 in
theorem leave24_ok (h : Hub) (A : Option Addr) (n c : Nat) (id : Int) (w : World) (hh : HubIn w h A n) (hm : hubMay h = true) (hp : place id h.2 < h.2.length) :
    Calls Tryd.prog 19 #[.agg #[.int .i64 h.1, .slice A n c], .int .i64 id] w (GivesL w ((h.1, h.2.eraseIdx (place id h.2)), 0)) := by
  have hM := hid (fun W (k : HubIn W h A n) => hmay_any h A n c W k)
  have HH := hid hh
  have hn16 := (hubMay_parts hm).2.1
  have hln := hh.len
  have hFi := hid (fun W (k : HubIn W h A n) => find24_any h A n c id W k (by omega))
  unfold GivesN at hFi
  have hpl : plT h.2 id = (place id h.2 : Int) := by unfold plT; rw [if_pos hp]
  rw [hpl] at hFi
  have hWo := hid (fun W (k : HubIn W h A n) => without_any h A n c (place id h.2) W k (by omega) (hubMay_its1 hm))
  unfold GivesH at hWo
  generalize place id h.2 = pl at *
  have t1 : (0 : Int) ≤ (pl : Int) := by omega
  have t2 : ¬ (pl : Int) < 0 := by omega
  clear hp hpl hln hn16
  rw [hm] at hM
  clear hh hm
  obtain ⟨nx, ss⟩ := h
  try dsimp only at *
  go_enter Tryd.func19, Tryd.ntmps19
  go_upto_region 1 with (first
    | (refine wpList_bx rfl 24 _ rfl #[.int .i64 nx, .slice A n c] rfl ?_; intro w1 hB1 hb1 hy; have hz1 := hid hy; clear hy)
    | ((with_reducible refine at_alloc (d := some 4) 24 ?_); refine wpList_al rfl 24 rfl _ (hub_zero _) ?_; intro w2 hB2 hb2 hy; clear hy))
  have X0 := hid (below_chain hb1 hb2)
  have X1 := hid (hB1.belowS hb2)
  have X2 := hid hB2
  have l1 := hid (show w.heap.size < w1.heap.size by have := hz1.out; omega)
  have l2 := hid hB2.lt
  clear hB1 hb1 hz1 hB2 hb2
  generalize w1.heap.size = g2 at *
  obtain ⟨a0, a1, a2, a3⟩ := two_facts X1.out
  obtain ⟨c0, c1, c2, c3⟩ := two_facts X2.out
  go_upto_region 5 with (first
    | ((with_reducible refine (hM.out _ (HH.out.below X0.out)).mono ?_); rintro e w3 ⟨rfl, hb3⟩; clear a0 a1 a2 a3 c0 c1 c2 c3; have X0 := hid (below_chain X0.out hb3); have X1 := hid (X1.out.belowS hb3); have X2 := hid (X2.out.belowS hb3); have l2 := hid (show g2 < w3.heap.size by have := l2.out; have := hb3.size; omega); obtain ⟨a0, a1, a2, a3⟩ := two_facts X1.out; obtain ⟨c0, c1, c2, c3⟩ := two_facts X2.out)
    | ((with_reducible refine (hFi.out _ (HH.out.below X0.out)).mono ?_); rintro e w4 ⟨rfl, hb4⟩; clear a0 a1 a2 a3 c0 c1 c2 c3; have X0 := hid (below_chain X0.out hb4); have X1 := hid (X1.out.belowS hb4); have X2 := hid (X2.out.belowS hb4); have l2 := hid (show g2 < w4.heap.size by have := l2.out; have := hb4.size; omega); obtain ⟨a0, a1, a2, a3⟩ := two_facts X1.out; obtain ⟨c0, c1, c2, c3⟩ := two_facts X2.out))
  have X0 := hid (below_drew1 X0.out)
  have X1 := hid X1.out.drew
  have X2 := hid X2.out.drew
  have l2 := hid (show g2 < w4.drew.heap.size from l2.out)
  clear a0 a1 a2 a3 c0 c1 c2 c3
  obtain ⟨a0, a1, a2, a3⟩ := two_facts X1.out
  refine wp_region_held_drew (S := (fun w' => w'.cell? ⟨w.heap.size, 0, none⟩ = some (.int .i64 nx) ∧ w'.cell? ⟨w.heap.size, 1, none⟩ = some (.slice A n c))) (by kernel_rfl) ⟨a0, a1⟩ (fun hHeld => ?_)
  refine reg_take (v := ?_) 0 rfl (by kernel_rfl) (by kernel_rfl) (by kernel_rfl) (fun _ _ _ h => h) (Or.inl ⟨by rfl, ?_⟩) (by assumption) ?_; rotate_left; (intro w hSw; (try dsimp only at hSw); go_simp); (try with_reducible rfl); (try simp only [Act.put, List.setIfInBounds_toArray, List.set_cons_zero, List.set_cons_succ])
  refine reg_take (v := ?_) 1 rfl (by kernel_rfl) (by kernel_rfl) (by kernel_rfl) (fun _ _ _ h => h) (Or.inl ⟨by rfl, ?_⟩) (by assumption) ?_; rotate_left; (intro w hSw; (try dsimp only at hSw); go_simp); (try with_reducible rfl); (try simp only [Act.put, List.setIfInBounds_toArray, List.set_cons_zero, List.set_cons_succ])
  refine reg_take (v := ?_) 2 rfl (by kernel_rfl) (by kernel_rfl) (by kernel_rfl) (fun _ _ _ h => h) (Or.inl ⟨by rfl, ?_⟩) (by assumption) ?_; rotate_left; (intro w hSw; (try dsimp only at hSw); go_simp); (try with_reducible rfl); (try simp only [Act.put, List.setIfInBounds_toArray, List.set_cons_zero, List.set_cons_succ])
  refine reg_only 3 rfl (by kernel_rfl) (fun K hK => ?_); go_simp; refine (hFi.out _ (HH.out.below X0.out)).mono ?_; rintro e' w5 ⟨rfl, hb5⟩; have X0 := hid (below_chain X0.out hb5); have X1 := hid (X1.out.belowS hb5); have X2 := hid (X2.out.belowS hb5); have l2 := hid (show g2 < w5.heap.size from Nat.lt_of_lt_of_le l2.out hb5.size); obtain ⟨a0, a1, _, _⟩ := two_facts X1.out; refine hK.out _ _ ?_ (fun hHeld => ?_); (exact ⟨a0, a1⟩); clear hK K; (try simp only [Act.put, List.setIfInBounds_toArray, List.set_cons_zero, List.set_cons_succ])
  refine reg_only 4 rfl (by kernel_rfl) (fun K hK => ?_); go_simp; refine (hWo.out _ (HH.out.below X0.out)).mono ?_; rintro e' w6 ⟨D, m, d, rs, rfl, hsub, hO, hb6⟩; have X0 := hid (below_chain X0.out hb6); have X1 := hid (X1.out.belowS hb6); have X2 := hid (X2.out.belowS hb6); have HO := hid hO; obtain ⟨a0, a1, _, _⟩ := two_facts X1.out; refine hK.out _ _ ?_ (fun hHeld => ?_); (exact ⟨a0, a1⟩); clear hK K; (try simp only [Act.put, List.setIfInBounds_toArray, List.set_cons_zero, List.set_cons_succ])
  refine reg_only 5 rfl (by kernel_rfl) (fun K hK => ?_); refine step_str rfl 24 _ _ rfl g2 #[.int .i64 nx, .slice D m d] rfl rfl _ _ X2.out rfl (hub_size _ _) (one_hub _ _ _ _) ?_; intro w9 hB9 hg9 hy; clear hy; have Z1 := X1.out.grown hg9 (by have := l1.out; simp; omega); obtain ⟨q0, q1, _, _⟩ := two_facts hB9; obtain ⟨r0, r1, _, _⟩ := two_facts Z1; refine hK.out _ _ ?_ (fun hHeld => ?_); (exact ⟨r0, r1⟩); clear hK K; (try simp only [Act.put, List.setIfInBounds_toArray, List.set_cons_zero, List.set_cons_succ])
  refine reg_take (v := ?_) 6 rfl (by kernel_rfl) (by kernel_rfl) (by kernel_rfl) (fun _ _ _ h => h) (Or.inl ⟨by rfl, ?_⟩) (by assumption) ?_; rotate_left; (intro w hSw; (try dsimp only at hSw); go_simp); (try with_reducible rfl); (try simp only [Act.put, List.setIfInBounds_toArray, List.set_cons_zero, List.set_cons_succ])
  refine wpAnyH_done (by kernel_rfl) ?_ _
  have hHf := HO.out.grown hg9 l2.out
  have hbf := below_set X0.out hg9 (by have := l1.out; omega)
  have hlo := hid (show w.heap.size ≤ w5.heap.size by have := l1.out; have := l2.out; omega)
  go_wp2
  exact bodyPost_ret (v := .tuple #[.agg #[.int .i64 nx, .slice D m d], .int .i64 0]) (by simp [results, Tryd.f19, go_sem, q0, q1]) rfl ⟨D, m, d, rs, rfl, hsub, hHf.low hlo.out, hbf⟩

theorem leave24_any (h : Hub) (A : Option Addr) (n c : Nat) (id : Int) (w : World) (hh : HubIn w h A n) :
    Calls Tryd.prog 19 #[.agg #[.int .i64 h.1, .slice A n c], .int .i64 id] w (GivesL w (leaveT h id)) := by
  unfold leaveT
  cases hm : hubMay h with
  | false => exact leave24_bad h A n c id w hh hm
  | true =>
    rw [if_pos rfl]
    by_cases hp : place id h.2 < h.2.length
    · rw [if_pos hp]
      exact leave24_ok h A n c id w hh hm hp
    · rw [if_neg hp]
      exact leave24_none h A n c id w hh hm hp
end Go.Proofs.YtmepbokoopgmiaaDoor
