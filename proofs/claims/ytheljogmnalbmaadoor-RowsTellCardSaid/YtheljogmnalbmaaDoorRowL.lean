/-
  The contract of the law's 'alive': the chapter's first examples hold. The table k stands in its variable.
-/
import Derived.Test.YtheljogmnalbmaaDoorRowK
import Derived.Test.YtheljogmnalbmaaDoorRowG
namespace Go.Proofs.YtheljogmnalbmaaDoor
open Go.RowKit
set_option linter.unusedSimpArgs false
set_option linter.unusedVariables false

theorem listB_abc : listB [[97], [98], [99]] = true ∧ listB [[97]] = true ∧ listB [] = true := by decide
theorem rootE_of {pss : List (List UInt8)} (h : listB pss = true) : rootE pss = (rootT pss, 0) := by
  unfold rootE
  rw [if_pos h]
theorem rootT_abc : rootT [[97], [98], [99]] = digOf 8 [digOf 8 [digOf 7 [[97]], digOf 7 [[98]]], digOf 7 [[99]]] := by
  have h3 := frontN_bounds (n := 3) (by omega)
  have h2 := frontN_bounds (n := 2) (by omega)
  have e3 : frontN 3 = 2 := by omega
  have e2 : frontN 2 = 1 := by omega
  rw [rootT_two (by decide)]
  have l3 : ([[97], [98], [99]] : List (List UInt8)).length = 3 := rfl
  rw [l3, e3]
  have t3 : ([[97], [98], [99]] : List (List UInt8)).take 2 = [[97], [98]] := rfl
  have d3 : ([[97], [98], [99]] : List (List UInt8)).drop 2 = [[99]] := rfl
  rw [t3, d3, rootT_one, rootT_two (by decide)]
  have l2 : ([[97], [98]] : List (List UInt8)).length = 2 := rfl
  rw [l2, e2]
  have t2 : ([[97], [98]] : List (List UInt8)).take 1 = [[97]] := rfl
  have d2 : ([[97], [98]] : List (List UInt8)).drop 1 = [[98]] := rfl
  rw [t2, d2, rootT_one, rootT_one]
theorem dig_ne1 : decide (digOf 7 [[97]] = digOf 0 []) = false := by decide +kernel
theorem dig_ne3 : decide (digOf 8 [digOf 8 [digOf 7 [[97]], digOf 7 [[98]]], digOf 7 [[99]]] = digOf 7 [[97]]) = false := by decide +kernel

/-- A digest's answer, its values given. -/
def GivesV (w : World) (L : List Value) (e : Ending) (w' : World) : Prop := e = .returned (.agg L.toArray) ∧ Below w.heap.size w w'
def GivesVE (w : World) (L : List Value) (e : Ending) (w' : World) : Prop := e = .returned (.tuple #[.agg L.toArray, .int .i64 0]) ∧ Below w.heap.size w w'
theorem leaf_v (s : ByteArray) (p : List UInt8) (hp : s.data.toList = p) (hs : s.size ≤ 5000) (w : World) (hK : KOk w) : Calls Tryd.prog 21 #[.string s] w (GivesV w ((digOf 7 [p]).map bv)) := by
  subst hp
  exact leaf_any s hs w hK

set_option maxRecDepth 100000 in
set_option maxHeartbeats 8000000 in
theorem alive_any (w : World) (hK : KOk w) : Calls Tryd.prog 10 #[] w fun e w' => e = .returned (.bool true) ∧ Below w.heap.size w w' := by
  have HK := hid hK
  have hR0 := hid (fun W (k : KOk W) => (show Calls Tryd.prog 12 #[.slice none 0 0] W (GivesVE W ((digOf 0 []).map bv)) by
    have := rootE_any none 0 0 [] W (Parts.none W none) (Nat.le_refl _) k
    rw [rootE_of listB_abc.2.2, rootT_nil] at this
    exact this))
  have hR1 := hid (fun W P (h : Parts W P 1 [[97]]) (k : KOk W) => (show Calls Tryd.prog 12 #[.slice P 1 3] W (GivesVE W ((digOf 7 [[97]]).map bv)) by
    have := rootE_any P 1 3 [[97]] W h (by omega) k
    rw [rootE_of listB_abc.2.1, rootT_one] at this
    exact this))
  have hR3 := hid (fun W P (h : Parts W P 3 [[97], [98], [99]]) (k : KOk W) => (show Calls Tryd.prog 12 #[.slice P 3 3] W (GivesVE W ((digOf 8 [digOf 8 [digOf 7 [[97]], digOf 7 [[98]]], digOf 7 [[99]]]).map bv)) by
    have := rootE_any P 3 3 [[97], [98], [99]] W h (by omega) k
    rw [rootE_of listB_abc.1, rootT_abc] at this
    exact this))
  have hNo := hid (fun W (k : KOk W) => (show Calls Tryd.prog 25 #[] W (GivesV W ((digOf 0 []).map bv)) from tagNone_any W k))
  have hLa := hid (fun W (k : KOk W) => leaf_v { data := #[97] } [97] rfl (by decide) W k)
  have hLb := hid (fun W (k : KOk W) => leaf_v { data := #[98] } [98] rfl (by decide) W k)
  have hLc := hid (fun W (k : KOk W) => leaf_v { data := #[99] } [99] rfl (by decide) W k)
  have hF1 := hid (fun W (k : KOk W) => (show Calls Tryd.prog 13 #[.agg ((digOf 7 [[97]]).map bv).toArray, .agg ((digOf 7 [[98]]).map bv).toArray] W (GivesV W ((digOf 8 [digOf 7 [[97]], digOf 7 [[98]]]).map bv)) from forkD_any _ _ (digOf_len _ _) (digOf_len _ _) W k))
  have hF2 := hid (fun W (k : KOk W) => (show Calls Tryd.prog 13 #[.agg ((digOf 8 [digOf 7 [[97]], digOf 7 [[98]]]).map bv).toArray, .agg ((digOf 7 [[99]]).map bv).toArray] W (GivesV W ((digOf 8 [digOf 8 [digOf 7 [[97]], digOf 7 [[98]]], digOf 7 [[99]]]).map bv)) from forkD_any _ _ (digOf_len _ _) (digOf_len _ _) W k))
  have n0 := digOf_len 0 []
  have n1 := digOf_len 7 [[97]]
  have n3 := digOf_len 8 [digOf 8 [digOf 7 [[97]], digOf 7 [[98]]], digOf 7 [[99]]]
  have hE0 := run_eq_dig _ _ n0 n0
  have hE1 := run_eq_dig _ _ n1 n1
  have hE3 := run_eq_dig _ _ n3 n3
  have hN1 := run_eq_dig _ _ n1 n0
  have hN3 := run_eq_dig _ _ n3 n1
  rw [dig_ne1] at hN1
  rw [dig_ne3] at hN3
  rw [decide_eq_true (rfl : digOf 0 [] = _)] at hE0
  rw [decide_eq_true (rfl : digOf 7 [[97]] = _)] at hE1
  rw [decide_eq_true (rfl : digOf 8 [digOf 8 [digOf 7 [[97]], digOf 7 [[98]]], digOf 7 [[99]]] = _)] at hE3
  have z0 := digZ _ n0
  have z1 := digZ _ n1
  have z3 := digZ _ n3
  have hL0 : (Tryd.prog.info? 23).map (·.size) = some ((digOf 0 []).map bv).length := by rw [digS _ n0, List.size_toArray]
  have hL1 : (Tryd.prog.info? 23).map (·.size) = some ((digOf 7 [[97]]).map bv).length := by rw [digS _ n1, List.size_toArray]
  have hL3 : (Tryd.prog.info? 23).map (·.size) = some ((digOf 8 [digOf 8 [digOf 7 [[97]], digOf 7 [[98]]], digOf 7 [[99]]]).map bv).length := by rw [digS _ n3, List.size_toArray]
  have o0 := hid (oneBv' (digOf 0 []))
  have o1 := hid (oneBv' (digOf 7 [[97]]))
  have o3 := hid (oneBv' (digOf 8 [digOf 8 [digOf 7 [[97]], digOf 7 [[98]]], digOf 7 [[99]]]))
  have hu := Tryd.underlying23
  generalize (digOf 8 [digOf 8 [digOf 7 [[97]], digOf 7 [[98]]], digOf 7 [[99]]]).map bv = L3 at *
  generalize (digOf 8 [digOf 7 [[97]], digOf 7 [[98]]]).map bv = L2 at *
  generalize (digOf 7 [[97]]).map bv = L1 at *
  generalize (digOf 7 [[98]]).map bv = Lb at *
  generalize (digOf 7 [[99]]).map bv = Lc at *
  generalize (digOf 0 []).map bv = L0 at *
  clear n0 n1 n3 hK
  unfold GivesV at hNo hLa hLb hLc hF1 hF2
  unfold GivesVE at hR0 hR1 hR3
  go_enter Tryd.func10, Tryd.ntmps10
  go_upto_region 2 with (first
    | ((with_reducible refine (hR0.out w HK.out).mono ?_); rintro e w1 ⟨rfl, hb1⟩)
    | ((with_reducible refine at_alloc (d := some 1) 23 ?_); refine wpList_al rfl 23 rfl zeroD (zeroD_run _) ?_; intro w2 hB2 hb2 hy; clear hy)
    | ((with_reducible refine at_store 23 ?_); refine wpList_str rfl 23 _ _ rfl w1.heap.size L0.toArray rfl rfl _ zeroD hB2 z0 zeroD_size o0.out ?_; intro w3 hB3 hg3 hy; clear hy))
  have q13 : Below w1.heap.size w1 w3 := hb2.grown hg3 hb2.size (by intro k e; cases e; exact Nat.le_refl _)
  have Y := hid (below_chain hb1 q13)
  have X1 := hid hB3
  have K3 := hid (HK.out.below Y.out)
  clear hB2 hb2 hg3 hB3 hb1 q13 hR0
  go_upto_region 3 with (first
    | ((with_reducible refine (abc_any w3).mono ?_); rintro e w4 ⟨g4, rfl, hp4, hb4⟩; have hP4 := hid (show Parts w4 (some ⟨g4, 0, none⟩) 1 [[97]] from parts_take (k := 1) hp4 (by omega)); clear hp4)
    | ((with_reducible refine (hR1.out w4 _ hP4.out (K3.out.below hb4)).mono ?_); rintro e w5 ⟨rfl, hb5⟩)
    | ((with_reducible refine at_alloc (d := some 3) 23 ?_); refine wpList_al rfl 23 rfl zeroD (zeroD_run _) ?_; intro w6 hB6 hb6 hy; clear hy)
    | ((with_reducible refine at_store 23 ?_); refine wpList_str rfl 23 _ _ rfl w5.heap.size L1.toArray rfl rfl _ zeroD hB6 z1 zeroD_size o1.out ?_; intro w7 hB7 hg7 hy; clear hy))
  have q57 : Below w5.heap.size w5 w7 := hb6.grown hg7 hb6.size (by intro k e; cases e; exact Nat.le_refl _)
  have q37 := below_chain hb4 (below_chain hb5 q57)
  have Y := hid (below_chain Y.out q37)
  have X1 := hid (X1.out.belowS q37)
  have X3 := hid hB7
  have K7 := hid (K3.out.below q37)
  clear hB6 hb6 hg7 hB7 hb4 hb5 q57 q37 hR1 hP4 K3
  go_upto_region 4 with (first
    | ((with_reducible refine (abc_any w7).mono ?_); rintro e w8 ⟨g8, rfl, hp8, hb8⟩; have hP8 := hid hp8; clear hp8)
    | ((with_reducible refine (hR3.out w8 _ hP8.out (K7.out.below hb8)).mono ?_); rintro e w9 ⟨rfl, hb9⟩)
    | ((with_reducible refine at_alloc (d := some 5) 23 ?_); refine wpList_al rfl 23 rfl zeroD (zeroD_run _) ?_; intro wa hBa hba hy; clear hy)
    | ((with_reducible refine at_store 23 ?_); refine wpList_str rfl 23 _ _ rfl w9.heap.size L3.toArray rfl rfl _ zeroD hBa z3 zeroD_size o3.out ?_; intro wb hBb hgb hy; clear hy))
  have q9b : Below w9.heap.size w9 wb := hba.grown hgb hba.size (by intro k e; cases e; exact Nat.le_refl _)
  have q7b := below_drew1 (below_chain hb8 (below_chain hb9 q9b))
  have Y := hid (below_chain Y.out q7b)
  have X1 := hid (X1.out.belowS q7b)
  have X3 := hid (X3.out.belowS q7b)
  have X5 := hid hBb.drew
  have KB := hid (K7.out.below q7b)
  clear hBa hba hgb hBb hb8 hb9 q9b q7b hR3 hP8 K7 z0 z1 z3 o0 o1 o3
  have hr0 : wb.drew.rangeAt w1.heap.size 0 L0 ∧ wb.drew.rangeAt w5.heap.size 0 L1 ∧ wb.drew.rangeAt w9.heap.size 0 L3 := ⟨by have := X1.out.range; simpa using this, by have := X3.out.range; simpa using this, by have := X5.out.range; simpa using this⟩
  refine wp_region_held_drew (S := (fun w' => w'.rangeAt w1.heap.size 0 L0 ∧ w'.rangeAt w5.heap.size 0 L1 ∧ w'.rangeAt w9.heap.size 0 L3)) (by kernel_rfl) hr0 (fun hHeld => ?_)
  refine reg_take (v := ?_) 0 rfl (by kernel_rfl) (by kernel_rfl) (by kernel_rfl) (fun _ _ _ h => h) (Or.inl ⟨by rfl, ?_⟩) (by assumption) ?_; rotate_left; (intro w hSw; (try dsimp only at hSw); go_simp); (try with_reducible rfl); (try simp only [Act.put, List.setIfInBounds_toArray, List.set_cons_zero, List.set_cons_succ])
  refine reg_take (v := ?_) 1 rfl (by kernel_rfl) (by kernel_rfl) (by kernel_rfl) (fun _ _ _ h => h) (Or.inl ⟨by rfl, ?_⟩) (by assumption) ?_; rotate_left; (intro w hSw; (try dsimp only at hSw); go_simp); (try with_reducible rfl); (try simp only [Act.put, List.setIfInBounds_toArray, List.set_cons_zero, List.set_cons_succ])
  refine reg_take (v := ?_) 2 rfl (by kernel_rfl) (by kernel_rfl) (by kernel_rfl) (fun _ _ _ h => h) (Or.inl ⟨by rfl, ?_⟩) (by assumption) ?_; rotate_left; (intro w hSw; (try dsimp only at hSw); go_simp); (try with_reducible rfl); (try simp only [Act.put, List.setIfInBounds_toArray, List.set_cons_zero, List.set_cons_succ])
  refine reg_take 3 rfl (by kernel_rfl) (by kernel_rfl) (by kernel_rfl) (fun _ _ _ h => h) (yieldsIf_load_mid (by rfl) _ _ rfl _ _ rfl _ _ (by intro w hSw; (try dsimp only at hSw); go_split_ands; assumption) (by assumption) (by rfl) (by assumption)) (by assumption) ?_; (try simp only [Act.put, List.setIfInBounds_toArray, List.set_cons_zero, List.set_cons_succ])
  refine reg_only 4 rfl (by kernel_rfl) (fun K hK => ?_); go_simp; refine (hNo.out _ KB.out).mono ?_; rintro e' u4 ⟨rfl, hbu4⟩; have Y := hid (below_chain Y.out hbu4); have X1 := hid (X1.out.belowS hbu4); have X3 := hid (X3.out.belowS hbu4); have X5 := hid (X5.out.belowS hbu4); have KB := hid (KB.out.below hbu4); refine hK.out _ _ ?_ (fun hHeld => ?_); (exact ⟨by have := X1.out.range; simpa using this, by have := X3.out.range; simpa using this, by have := X5.out.range; simpa using this⟩); clear hK K; (try simp only [Act.put, List.setIfInBounds_toArray, List.set_cons_zero, List.set_cons_succ])
  refine reg_take (v := ?_) 5 rfl (by kernel_rfl) (by kernel_rfl) (by kernel_rfl) (fun _ _ _ h => h) (Or.inl ⟨by rfl, ?_⟩) (by assumption) ?_; rotate_left; (intro w hSw; (try dsimp only at hSw); go_simp); (try with_reducible rfl); (try simp only [Act.put, List.setIfInBounds_toArray, List.set_cons_zero, List.set_cons_succ])
  refine reg_take (v := ?_) 6 rfl (by kernel_rfl) (by kernel_rfl) (by kernel_rfl) (fun _ _ _ h => h) (Or.inl ⟨by rfl, ?_⟩) (by assumption) ?_; rotate_left; (intro w hSw; (try dsimp only at hSw); go_simp); (try with_reducible rfl); (try simp only [Act.put, List.setIfInBounds_toArray, List.set_cons_zero, List.set_cons_succ])
  refine reg_take (v := ?_) 7 rfl (by kernel_rfl) (by kernel_rfl) (by kernel_rfl) (fun _ _ _ h => h) (Or.inl ⟨by rfl, ?_⟩) (by assumption) ?_; rotate_left; (intro w hSw; (try dsimp only at hSw); go_simp); (try with_reducible rfl); (try simp only [Act.put, List.setIfInBounds_toArray, List.set_cons_zero, List.set_cons_succ])
  refine reg_take (v := ?_) 8 rfl (by kernel_rfl) (by kernel_rfl) (by kernel_rfl) (fun _ _ _ h => h) (Or.inl ⟨by rfl, ?_⟩) (by assumption) ?_; rotate_left; (intro w hSw; (try dsimp only at hSw); go_simp); (try with_reducible rfl); (try simp only [Act.put, List.setIfInBounds_toArray, List.set_cons_zero, List.set_cons_succ])
  refine reg_take (v := ?_) 9 rfl (by kernel_rfl) (by kernel_rfl) (by kernel_rfl) (fun _ _ _ h => h) (Or.inl ⟨by rfl, ?_⟩) (by assumption) ?_; rotate_left; (intro w hSw; (try dsimp only at hSw); go_simp); (try with_reducible rfl); (try simp only [Act.put, List.setIfInBounds_toArray, List.set_cons_zero, List.set_cons_succ])
  refine reg_take (v := ?_) 10 rfl (by kernel_rfl) (by kernel_rfl) (by kernel_rfl) (fun _ _ _ h => h) (Or.inl ⟨by rfl, ?_⟩) (by assumption) ?_; rotate_left; (intro w hSw; (try dsimp only at hSw); go_simp); (try with_reducible rfl); (try simp only [Act.put, List.setIfInBounds_toArray, List.set_cons_zero, List.set_cons_succ])
  refine reg_take (v := ?_) 11 rfl (by kernel_rfl) (by kernel_rfl) (by kernel_rfl) (fun _ _ _ h => h) (Or.inl ⟨by rfl, ?_⟩) (by assumption) ?_; rotate_left; (intro w hSw; (try dsimp only at hSw); go_simp); (try with_reducible rfl); (try simp only [Act.put, List.setIfInBounds_toArray, List.set_cons_zero, List.set_cons_succ])
  refine reg_take 12 rfl (by kernel_rfl) (by kernel_rfl) (by kernel_rfl) (fun _ _ _ h => h) (yieldsIf_load_mid (by rfl) _ _ rfl _ _ rfl _ _ (by intro w hSw; (try dsimp only at hSw); go_split_ands; assumption) (by assumption) (by rfl) (by assumption)) (by assumption) ?_; (try simp only [Act.put, List.setIfInBounds_toArray, List.set_cons_zero, List.set_cons_succ])
  refine reg_only 13 rfl (by kernel_rfl) (fun K hK => ?_); go_simp; refine (hLa.out _ KB.out).mono ?_; rintro e' u13 ⟨rfl, hbu13⟩; have Y := hid (below_chain Y.out hbu13); have X1 := hid (X1.out.belowS hbu13); have X3 := hid (X3.out.belowS hbu13); have X5 := hid (X5.out.belowS hbu13); have KB := hid (KB.out.below hbu13); refine hK.out _ _ ?_ (fun hHeld => ?_); (exact ⟨by have := X1.out.range; simpa using this, by have := X3.out.range; simpa using this, by have := X5.out.range; simpa using this⟩); clear hK K; (try simp only [Act.put, List.setIfInBounds_toArray, List.set_cons_zero, List.set_cons_succ])
  refine reg_take (v := ?_) 14 rfl (by kernel_rfl) (by kernel_rfl) (by kernel_rfl) (fun _ _ _ h => h) (Or.inl ⟨by rfl, ?_⟩) (by assumption) ?_; rotate_left; (intro w hSw; (try dsimp only at hSw); go_simp); (try with_reducible rfl); (try simp only [Act.put, List.setIfInBounds_toArray, List.set_cons_zero, List.set_cons_succ])
  refine reg_take (v := ?_) 15 rfl (by kernel_rfl) (by kernel_rfl) (by kernel_rfl) (fun _ _ _ h => h) (Or.inl ⟨by rfl, ?_⟩) (by assumption) ?_; rotate_left; (intro w hSw; (try dsimp only at hSw); go_simp); (try with_reducible rfl); (try simp only [Act.put, List.setIfInBounds_toArray, List.set_cons_zero, List.set_cons_succ])
  refine reg_take (v := ?_) 16 rfl (by kernel_rfl) (by kernel_rfl) (by kernel_rfl) (fun _ _ _ h => h) (Or.inl ⟨by rfl, ?_⟩) (by assumption) ?_; rotate_left; (intro w hSw; (try dsimp only at hSw); go_simp); (try with_reducible rfl); (try simp only [Act.put, List.setIfInBounds_toArray, List.set_cons_zero, List.set_cons_succ])
  refine reg_take (v := ?_) 17 rfl (by kernel_rfl) (by kernel_rfl) (by kernel_rfl) (fun _ _ _ h => h) (Or.inl ⟨by rfl, ?_⟩) (by assumption) ?_; rotate_left; (intro w hSw; (try dsimp only at hSw); go_simp); (try with_reducible rfl); (try simp only [Act.put, List.setIfInBounds_toArray, List.set_cons_zero, List.set_cons_succ])
  refine reg_take (v := ?_) 18 rfl (by kernel_rfl) (by kernel_rfl) (by kernel_rfl) (fun _ _ _ h => h) (Or.inl ⟨by rfl, ?_⟩) (by assumption) ?_; rotate_left; (intro w hSw; (try dsimp only at hSw); go_simp); (try with_reducible rfl); (try simp only [Act.put, List.setIfInBounds_toArray, List.set_cons_zero, List.set_cons_succ])
  refine reg_take (v := ?_) 19 rfl (by kernel_rfl) (by kernel_rfl) (by kernel_rfl) (fun _ _ _ h => h) (Or.inl ⟨by rfl, ?_⟩) (by assumption) ?_; rotate_left; (intro w hSw; (try dsimp only at hSw); go_simp); (try with_reducible rfl); (try simp only [Act.put, List.setIfInBounds_toArray, List.set_cons_zero, List.set_cons_succ])
  refine reg_take (v := ?_) 20 rfl (by kernel_rfl) (by kernel_rfl) (by kernel_rfl) (fun _ _ _ h => h) (Or.inl ⟨by rfl, ?_⟩) (by assumption) ?_; rotate_left; (intro w hSw; (try dsimp only at hSw); go_simp); (try with_reducible rfl); (try simp only [Act.put, List.setIfInBounds_toArray, List.set_cons_zero, List.set_cons_succ])
  refine reg_take 21 rfl (by kernel_rfl) (by kernel_rfl) (by kernel_rfl) (fun _ _ _ h => h) (yieldsIf_load_mid (by rfl) _ _ rfl _ _ rfl _ _ (by intro w hSw; (try dsimp only at hSw); go_split_ands; assumption) (by assumption) (by rfl) (by assumption)) (by assumption) ?_; (try simp only [Act.put, List.setIfInBounds_toArray, List.set_cons_zero, List.set_cons_succ])
  refine reg_only 22 rfl (by kernel_rfl) (fun K hK => ?_); go_simp; refine (hLa.out _ KB.out).mono ?_; rintro e' u22 ⟨rfl, hbu22⟩; have Y := hid (below_chain Y.out hbu22); have X1 := hid (X1.out.belowS hbu22); have X3 := hid (X3.out.belowS hbu22); have X5 := hid (X5.out.belowS hbu22); have KB := hid (KB.out.below hbu22); refine hK.out _ _ ?_ (fun hHeld => ?_); (exact ⟨by have := X1.out.range; simpa using this, by have := X3.out.range; simpa using this, by have := X5.out.range; simpa using this⟩); clear hK K; (try simp only [Act.put, List.setIfInBounds_toArray, List.set_cons_zero, List.set_cons_succ])
  refine reg_only 23 rfl (by kernel_rfl) (fun K hK => ?_); go_simp; refine (hLb.out _ KB.out).mono ?_; rintro e' u23 ⟨rfl, hbu23⟩; have Y := hid (below_chain Y.out hbu23); have X1 := hid (X1.out.belowS hbu23); have X3 := hid (X3.out.belowS hbu23); have X5 := hid (X5.out.belowS hbu23); have KB := hid (KB.out.below hbu23); refine hK.out _ _ ?_ (fun hHeld => ?_); (exact ⟨by have := X1.out.range; simpa using this, by have := X3.out.range; simpa using this, by have := X5.out.range; simpa using this⟩); clear hK K; (try simp only [Act.put, List.setIfInBounds_toArray, List.set_cons_zero, List.set_cons_succ])
  refine reg_only 24 rfl (by kernel_rfl) (fun K hK => ?_); go_simp; refine (hF1.out _ KB.out).mono ?_; rintro e' u24 ⟨rfl, hbu24⟩; have Y := hid (below_chain Y.out hbu24); have X1 := hid (X1.out.belowS hbu24); have X3 := hid (X3.out.belowS hbu24); have X5 := hid (X5.out.belowS hbu24); have KB := hid (KB.out.below hbu24); refine hK.out _ _ ?_ (fun hHeld => ?_); (exact ⟨by have := X1.out.range; simpa using this, by have := X3.out.range; simpa using this, by have := X5.out.range; simpa using this⟩); clear hK K; (try simp only [Act.put, List.setIfInBounds_toArray, List.set_cons_zero, List.set_cons_succ])
  refine reg_only 25 rfl (by kernel_rfl) (fun K hK => ?_); go_simp; refine (hLc.out _ KB.out).mono ?_; rintro e' u25 ⟨rfl, hbu25⟩; have Y := hid (below_chain Y.out hbu25); have X1 := hid (X1.out.belowS hbu25); have X3 := hid (X3.out.belowS hbu25); have X5 := hid (X5.out.belowS hbu25); have KB := hid (KB.out.below hbu25); refine hK.out _ _ ?_ (fun hHeld => ?_); (exact ⟨by have := X1.out.range; simpa using this, by have := X3.out.range; simpa using this, by have := X5.out.range; simpa using this⟩); clear hK K; (try simp only [Act.put, List.setIfInBounds_toArray, List.set_cons_zero, List.set_cons_succ])
  refine reg_only 26 rfl (by kernel_rfl) (fun K hK => ?_); go_simp; refine (hF2.out _ KB.out).mono ?_; rintro e' u26 ⟨rfl, hbu26⟩; have Y := hid (below_chain Y.out hbu26); have X1 := hid (X1.out.belowS hbu26); have X3 := hid (X3.out.belowS hbu26); have X5 := hid (X5.out.belowS hbu26); have KB := hid (KB.out.below hbu26); refine hK.out _ _ ?_ (fun hHeld => ?_); (exact ⟨by have := X1.out.range; simpa using this, by have := X3.out.range; simpa using this, by have := X5.out.range; simpa using this⟩); clear hK K; (try simp only [Act.put, List.setIfInBounds_toArray, List.set_cons_zero, List.set_cons_succ])
  refine reg_take (v := ?_) 27 rfl (by kernel_rfl) (by kernel_rfl) (by kernel_rfl) (fun _ _ _ h => h) (Or.inl ⟨by rfl, ?_⟩) (by assumption) ?_; rotate_left; (intro w hSw; (try dsimp only at hSw); go_simp); (try with_reducible rfl); (try simp only [Act.put, List.setIfInBounds_toArray, List.set_cons_zero, List.set_cons_succ])
  refine reg_take (v := ?_) 28 rfl (by kernel_rfl) (by kernel_rfl) (by kernel_rfl) (fun _ _ _ h => h) (Or.inl ⟨by rfl, ?_⟩) (by assumption) ?_; rotate_left; (intro w hSw; (try dsimp only at hSw); go_simp); (try with_reducible rfl); (try simp only [Act.put, List.setIfInBounds_toArray, List.set_cons_zero, List.set_cons_succ])
  refine reg_take (v := ?_) 29 rfl (by kernel_rfl) (by kernel_rfl) (by kernel_rfl) (fun _ _ _ h => h) (Or.inl ⟨by rfl, ?_⟩) (by assumption) ?_; rotate_left; (intro w hSw; (try dsimp only at hSw); go_simp); (try with_reducible rfl); (try simp only [Act.put, List.setIfInBounds_toArray, List.set_cons_zero, List.set_cons_succ])
  refine reg_take 30 rfl (by kernel_rfl) (by kernel_rfl) (by kernel_rfl) (fun _ _ _ h => h) (yieldsIf_load_mid (by rfl) _ _ rfl _ _ rfl _ _ (by intro w hSw; (try dsimp only at hSw); go_split_ands; assumption) (by assumption) (by rfl) (by assumption)) (by assumption) ?_; (try simp only [Act.put, List.setIfInBounds_toArray, List.set_cons_zero, List.set_cons_succ])
  refine reg_take 31 rfl (by kernel_rfl) (by kernel_rfl) (by kernel_rfl) (fun _ _ _ h => h) (yieldsIf_load_mid (by rfl) _ _ rfl _ _ rfl _ _ (by intro w hSw; (try dsimp only at hSw); go_split_ands; assumption) (by assumption) (by rfl) (by assumption)) (by assumption) ?_; (try simp only [Act.put, List.setIfInBounds_toArray, List.set_cons_zero, List.set_cons_succ])
  refine reg_take (v := ?_) 32 rfl (by kernel_rfl) (by kernel_rfl) (by kernel_rfl) (fun _ _ _ h => h) (Or.inl ⟨by rfl, ?_⟩) (by assumption) ?_; rotate_left; (intro w hSw; (try dsimp only at hSw); go_simp); (try with_reducible rfl); (try simp only [Act.put, List.setIfInBounds_toArray, List.set_cons_zero, List.set_cons_succ])
  refine reg_take (v := ?_) 33 rfl (by kernel_rfl) (by kernel_rfl) (by kernel_rfl) (fun _ _ _ h => h) (Or.inl ⟨by rfl, ?_⟩) (by assumption) ?_; rotate_left; (intro w hSw; (try dsimp only at hSw); go_simp); (try with_reducible rfl); (try simp only [Act.put, List.setIfInBounds_toArray, List.set_cons_zero, List.set_cons_succ])
  refine reg_take (v := ?_) 34 rfl (by kernel_rfl) (by kernel_rfl) (by kernel_rfl) (fun _ _ _ h => h) (Or.inl ⟨by rfl, ?_⟩) (by assumption) ?_; rotate_left; (intro w hSw; (try dsimp only at hSw); go_simp); (try with_reducible rfl); (try simp only [Act.put, List.setIfInBounds_toArray, List.set_cons_zero, List.set_cons_succ])
  refine reg_take 35 rfl (by kernel_rfl) (by kernel_rfl) (by kernel_rfl) (fun _ _ _ h => h) (yieldsIf_load_mid (by rfl) _ _ rfl _ _ rfl _ _ (by intro w hSw; (try dsimp only at hSw); go_split_ands; assumption) (by assumption) (by rfl) (by assumption)) (by assumption) ?_; (try simp only [Act.put, List.setIfInBounds_toArray, List.set_cons_zero, List.set_cons_succ])
  refine reg_take 36 rfl (by kernel_rfl) (by kernel_rfl) (by kernel_rfl) (fun _ _ _ h => h) (yieldsIf_load_mid (by rfl) _ _ rfl _ _ rfl _ _ (by intro w hSw; (try dsimp only at hSw); go_split_ands; assumption) (by assumption) (by rfl) (by assumption)) (by assumption) ?_; (try simp only [Act.put, List.setIfInBounds_toArray, List.set_cons_zero, List.set_cons_succ])
  refine reg_take (v := ?_) 37 rfl (by kernel_rfl) (by kernel_rfl) (by kernel_rfl) (fun _ _ _ h => h) (Or.inl ⟨by rfl, ?_⟩) (by assumption) ?_; rotate_left; (intro w hSw; (try dsimp only at hSw); go_simp); (try with_reducible rfl); (try simp only [Act.put, List.setIfInBounds_toArray, List.set_cons_zero, List.set_cons_succ])
  refine reg_take (v := ?_) 38 rfl (by kernel_rfl) (by kernel_rfl) (by kernel_rfl) (fun _ _ _ h => h) (Or.inl ⟨by rfl, ?_⟩) (by assumption) ?_; rotate_left; (intro w hSw; (try dsimp only at hSw); go_simp); (try with_reducible rfl); (try simp only [Act.put, List.setIfInBounds_toArray, List.set_cons_zero, List.set_cons_succ])
  refine reg_take (v := ?_) 39 rfl (by kernel_rfl) (by kernel_rfl) (by kernel_rfl) (fun _ _ _ h => h) (Or.inl ⟨by rfl, ?_⟩) (by assumption) ?_; rotate_left; (intro w hSw; (try dsimp only at hSw); go_simp); (try with_reducible rfl); (try simp only [Act.put, List.setIfInBounds_toArray, List.set_cons_zero, List.set_cons_succ])
  refine wpAnyH_done (by kernel_rfl) ?_ _
  go_wp2
  go_ret
  exact ⟨by simp, Y.out⟩
end Go.Proofs.YtheljogmnalbmaaDoor
