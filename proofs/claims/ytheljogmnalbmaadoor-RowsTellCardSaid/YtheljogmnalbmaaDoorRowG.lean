/-
  Contract of the reference's Fits; the law RowsFit walked. The table k stands in its variable.
-/
import Derived.Test.YtheljogmnalbmaaDoorRowF
import Derived.Test.YtheljogmnalbmaaDoorIsRow
namespace Go.Proofs.YtheljogmnalbmaaDoor
open Go.RowKit
set_option linter.unusedSimpArgs false
set_option linter.unusedVariables false

set_option maxRecDepth 100000 in
set_option maxHeartbeats 4000000 in
theorem fits13_no (R : List UInt8) (hR : R.length = 32) (many i : Int) (A S : Option Addr) (n c m mc : Nat) (row : List UInt8) (ds : List (List UInt8)) (w : World) (hrow : Rd w 0 1 A n (row.map bv)) (hds : Digs w S m ds) (hn : n ≤ 5000) (hm : m ≤ 1000) (hmc : m ≤ mc) (h : many > 256 ∨ i < 0 ∨ i ≥ many ∨ (4096 : Int) < n) :
    Calls Tryd.prog 9 #[.agg (R.map bv).toArray, .int .i64 many, .int .i64 i, .slice A n c, .slice S m mc] w (GivesBo w false) := by
  clear hrow hds hm hmc
  generalize hRA : (R.map bv).toArray = RA at *
  clear hRA
  by_cases t1 : many > 256
  · go_enter Tryd.func9, Tryd.ntmps9
    go_wp2_with (first
      | (refine wpList_bx rfl 23 _ rfl RA rfl ?_; intro w1 hB1 hb1 hy; have hz1 := hid hy; clear hy))
    go_ret
    exact ⟨rfl, hb1⟩
  by_cases t2 : i < 0
  · go_enter Tryd.func9, Tryd.ntmps9
    go_wp2_with (first
      | (refine wpList_bx rfl 23 _ rfl RA rfl ?_; intro w1 hB1 hb1 hy; have hz1 := hid hy; clear hy))
    go_ret
    exact ⟨rfl, hb1⟩
  by_cases t3 : i ≥ many
  · go_enter Tryd.func9, Tryd.ntmps9
    go_wp2_with (first
      | (refine wpList_bx rfl 23 _ rfl RA rfl ?_; intro w1 hB1 hb1 hy; have hz1 := hid hy; clear hy))
    go_ret
    exact ⟨rfl, hb1⟩
  have t4 : (n : Int) > 4096 := by omega
  clear h
  go_enter Tryd.func9, Tryd.ntmps9
  go_wp2_with (first
    | (refine wpList_bx rfl 23 _ rfl RA rfl ?_; intro w1 hB1 hb1 hy; have hz1 := hid hy; clear hy))
  go_ret
  exact ⟨rfl, hb1⟩

set_option maxRecDepth 100000 in
set_option maxHeartbeats 4000000 in
theorem fits13_ok (R : List UInt8) (hR : R.length = 32) (many i : Int) (A S : Option Addr) (n c m mc : Nat) (row : List UInt8) (ds : List (List UInt8)) (w : World) (hrow : Rd w 0 1 A n (row.map bv)) (hds : Digs w S m ds) (hn : n ≤ 5000) (hm : m ≤ 1000) (hmc : m ≤ mc) (t1 : ¬ many > 256) (t2 : ¬ i < 0) (t3 : ¬ i ≥ many) (t4 : ¬ (n : Int) > 4096) (p : List UInt8 × Bool) (hp : madeR row many.toNat i.toNat ds.reverse = p) :
    Calls Tryd.prog 9 #[.agg (R.map bv).toArray, .int .i64 many, .int .i64 i, .slice A n c, .slice S m mc] w (GivesBo w (p.2 && decide (p.1 = R))) := by
  obtain ⟨mn, rfl⟩ : ∃ mn : Nat, many = (mn : Int) := ⟨many.toNat, by omega⟩
  obtain ⟨iN, rfl⟩ : ∃ iN : Nat, i = (iN : Int) := ⟨i.toNat, by omega⟩
  rw [Int.toNat_natCast, Int.toNat_natCast] at hp
  have hM := hid (fun W (h : Rd W 0 1 A n (row.map bv)) (k : Digs W S m ds) => made_any A n c row hn ds.reverse iN mn S m mc W (by omega) (by omega) (by omega) h (by rw [List.reverse_reverse]; exact k) hmc hm)
  unfold GivesDB at hM
  rw [hp] at hM
  have hpl : p.1.length = 32 := by rw [← hp]; exact madeR_len _ _ _ _
  have HR := hid hrow
  have HD := hid hds
  have hE := run_eq_dig p.1 R hpl hR
  have hpz := digZ _ hpl
  have hpS := digS _ hpl
  have hRS := digS R hR
  have hpo := hid (oneBv' p.1)
  obtain ⟨d, b⟩ := p
  clear hrow hds hp hmc
  dsimp only at *
  generalize hq : decide (d = R) = q at *
  generalize hRA : (R.map bv).toArray = RA at *
  generalize hDA : (d.map bv).toArray = DA at *
  clear hq hRA hDA
  cases b
  · go_enter Tryd.func9, Tryd.ntmps9
    go_upto_region 4 with (first
      | (refine wpList_bx rfl 23 _ rfl RA rfl ?_; intro w1 hB1 hb1 hy; have hz1 := hid hy; clear hy)
      | ((with_reducible refine (hM.out _ (HR.out.below hb1) (HD.out.below hb1)).mono ?_); rintro e w2 ⟨rfl, hb2⟩)
      | ((with_reducible refine at_alloc (d := some 11) 23 ?_); refine wpList_al rfl 23 rfl zeroD (zeroD_run _) ?_; intro w3 hB3 hb3 hy; clear hy)
      | ((with_reducible refine at_store 23 ?_); refine wpList_str rfl 23 _ _ rfl w2.heap.size DA rfl rfl _ zeroD hB3 hpz zeroD_size hpo.out ?_; intro w4 hB4 hg4 hy; clear hy))
    have q24 : Below w2.heap.size w2 w4 := hb3.grown hg4 hb3.size (by intro k e; cases e; exact Nat.le_refl _)
    have Y := hid (below_chain hb1 (below_chain hb2 q24))
    have X5 := hid ((hB1.belowS hb2).belowS q24)
    have X11 := hid hB4
    clear hB1 hb1 hb2 hB3 hb3 hB4 hg4 q24 hM HR HD
    go_wp2_with fail
    go_ret
    exact ⟨rfl, Y.out⟩
  · go_enter Tryd.func9, Tryd.ntmps9
    go_upto_region 4 with (first
      | (refine wpList_bx rfl 23 _ rfl RA rfl ?_; intro w1 hB1 hb1 hy; have hz1 := hid hy; clear hy)
      | ((with_reducible refine (hM.out _ (HR.out.below hb1) (HD.out.below hb1)).mono ?_); rintro e w2 ⟨rfl, hb2⟩)
      | ((with_reducible refine at_alloc (d := some 11) 23 ?_); refine wpList_al rfl 23 rfl zeroD (zeroD_run _) ?_; intro w3 hB3 hb3 hy; clear hy)
      | ((with_reducible refine at_store 23 ?_); refine wpList_str rfl 23 _ _ rfl w2.heap.size DA rfl rfl _ zeroD hB3 hpz zeroD_size hpo.out ?_; intro w4 hB4 hg4 hy; clear hy))
    have q24 : Below w2.heap.size w2 w4 := hb3.grown hg4 hb3.size (by intro k e; cases e; exact Nat.le_refl _)
    have Y := hid (below_chain hb1 (below_chain hb2 q24))
    have X5 := hid ((hB1.belowS hb2).belowS q24)
    have X11 := hid hB4
    clear hB1 hb1 hb2 hB3 hb3 hB4 hg4 q24 hM HR HD
    go_wp2_with (first
      | ((with_reducible refine at_load (d := some 39) 23 ?_); refine wpList_ldr_g (by kernel_rfl) 23 _ rfl w2.heap.size rfl _ DA _ X11.out Tryd.underlying23 rfl hpS ?_)
      | ((with_reducible refine at_load (d := some 40) 23 ?_); refine wpList_ldr_g (by kernel_rfl) 23 _ rfl w.heap.size rfl _ RA _ X5.out Tryd.underlying23 rfl hRS ?_))
    go_ret
    exact ⟨rfl, Y.out⟩

theorem fits13_any (R : List UInt8) (hR : R.length = 32) (many i : Int) (A S : Option Addr) (n c m mc : Nat) (row : List UInt8) (ds : List (List UInt8)) (w : World) (hrow : Rd w 0 1 A n (row.map bv)) (hds : Digs w S m ds) (hn : n ≤ 5000) (hm : m ≤ 1000) (hmc : m ≤ mc) :
    Calls Tryd.prog 9 #[.agg (R.map bv).toArray, .int .i64 many, .int .i64 i, .slice A n c, .slice S m mc] w (GivesBo w (fitsT R many i row ds)) := by
  have hrl : row.length = n := by simpa using hrow.1
  rw [← fits_same]
  unfold fitsR
  by_cases h : many > 256 ∨ i < 0 ∨ i ≥ many ∨ 4096 < row.length
  · rw [if_pos h]
    exact fits13_no R hR many i A S n c m mc row ds w hrow hds hn hm hmc (by omega)
  · rw [if_neg h]
    exact fits13_ok R hR many i A S n c m mc row ds w hrow hds hn hm hmc (by omega) (by omega) (by omega) (by omega) _ rfl

set_option maxRecDepth 100000 in
set_option maxHeartbeats 4000000 in
theorem fit_walk (R : List UInt8) (hR : R.length = 32) (many i : Int) (A S : Option Addr) (n c m mc : Nat) (row : List UInt8) (ds : List (List UInt8)) (w : World) (hrow : Rd w 0 1 A n (row.map bv)) (hds : Digs w S m ds) (hmc : m ≤ mc) (hK : KOk w) :
    Calls Tryd.prog 3 #[.agg (R.map bv).toArray, .int .i64 many, .int .i64 i, .slice A n c, .slice S m mc] w (GivesBo w true) := by
  have HR := hid hrow
  have HD := hid hds
  have HK := hid hK
  have hMC := hid hmc
  have hF1 := hid (fun W (h : Rd W 0 1 A n (row.map bv)) (k : Digs W S m ds) (hn : n ≤ 5000) (hm : m ≤ 1000) (k2 : KOk W) => fits_any R hR many i A S n c m mc row ds W h k hn hm k2)
  have hF2 := hid (fun W (h : Rd W 0 1 A n (row.map bv)) (k : Digs W S m ds) (hn : n ≤ 5000) (hm : m ≤ 1000) => fits13_any R hR many i A S n c m mc row ds W h k hn hm hmc)
  have hRL : (Tryd.prog.info? 23).map (·.size) = some (R.map bv).length := by rw [digS R hR, List.size_toArray]
  have hu := Tryd.underlying23
  unfold GivesBo at hF1 hF2
  clear hrow hds hK hmc
  generalize fitsT R many i row ds = q at *
  generalize hRA : R.map bv = RA at *
  by_cases t1 : (m : Int) > 20
  · go_enter Tryd.func3, Tryd.ntmps3
    go_wp2_with (refine wpList_bx rfl 23 _ rfl RA.toArray rfl ?_; intro w1 hB1 hb1 hy; clear hy)
    go_ret
    exact ⟨rfl, hb1⟩
  by_cases t2 : (n : Int) > 5000
  · go_enter Tryd.func3, Tryd.ntmps3
    go_wp2_with (refine wpList_bx rfl 23 _ rfl RA.toArray rfl ?_; intro w1 hB1 hb1 hy; clear hy)
    go_ret
    exact ⟨rfl, hb1⟩
  have hC1 := hid (fun W h k k2 => hF1.out W h k (by omega) (by omega) k2)
  have hC2 := hid (fun W h k => hF2.out W h k (by omega) (by omega))
  go_enter Tryd.func3, Tryd.ntmps3
  go_wp2_with (refine wpList_bx rfl 23 _ rfl RA.toArray rfl ?_; intro w1 hB1 hb1 hy; clear hy)
  have Y := hid (below_drew1 hb1)
  have X5 := hid hB1.drew
  have hr0 : w1.drew.rangeAt w.heap.size 0 RA := by have := X5.out.range; simpa using this
  refine wp_region_held_drew (S := (fun w' => w'.rangeAt w.heap.size 0 RA)) (by kernel_rfl) hr0 (fun hHeld => ?_)
  refine reg_take 0 rfl (by kernel_rfl) (by kernel_rfl) (by kernel_rfl) (fun _ _ _ h => h) (yieldsIf_load_mid (by rfl) _ _ rfl _ _ rfl _ _ (by intro w hSw; (try dsimp only at hSw); go_split_ands; assumption) (by assumption) (by rfl) (by assumption)) (by assumption) ?_; (try simp only [Act.put, List.setIfInBounds_toArray, List.set_cons_zero, List.set_cons_succ])
  refine reg_take (v := ?_) 1 rfl (by kernel_rfl) (by kernel_rfl) (by kernel_rfl) (fun _ _ _ h => h) (Or.inl ⟨by rfl, ?_⟩) (by assumption) ?_; rotate_left; (intro w hSw; (try dsimp only at hSw); go_simp); (try with_reducible rfl); (try simp only [Act.put, List.setIfInBounds_toArray, List.set_cons_zero, List.set_cons_succ])
  refine reg_take (v := ?_) 2 rfl (by kernel_rfl) (by kernel_rfl) (by kernel_rfl) (fun _ _ _ h => h) (Or.inl ⟨by rfl, ?_⟩) (by assumption) ?_; rotate_left; (intro w hSw; (try dsimp only at hSw); go_simp); (try with_reducible rfl); (try simp only [Act.put, List.setIfInBounds_toArray, List.set_cons_zero, List.set_cons_succ])
  refine reg_take (v := ?_) 3 rfl (by kernel_rfl) (by kernel_rfl) (by kernel_rfl) (fun _ _ _ h => h) (Or.inl ⟨by rfl, ?_⟩) (by assumption) ?_; rotate_left; (intro w hSw; (try dsimp only at hSw); go_simp); (try with_reducible rfl); (try simp only [Act.put, List.setIfInBounds_toArray, List.set_cons_zero, List.set_cons_succ])
  refine reg_take (v := ?_) 4 rfl (by kernel_rfl) (by kernel_rfl) (by kernel_rfl) (fun _ _ _ h => h) (Or.inl ⟨by rfl, ?_⟩) (by assumption) ?_; rotate_left; (intro w hSw; (try dsimp only at hSw); go_simp); (try with_reducible rfl); (try simp only [Act.put, List.setIfInBounds_toArray, List.set_cons_zero, List.set_cons_succ])
  refine reg_take 6 rfl (by kernel_rfl) (by kernel_rfl) (by kernel_rfl) (fun _ _ _ h => h) (yieldsIf_load_mid (by rfl) _ _ rfl _ _ rfl _ _ (by intro w hSw; (try dsimp only at hSw); go_split_ands; assumption) (by assumption) (by rfl) (by assumption)) (by assumption) ?_; (try simp only [Act.put, List.setIfInBounds_toArray, List.set_cons_zero, List.set_cons_succ])
  refine reg_take (v := ?_) 7 rfl (by kernel_rfl) (by kernel_rfl) (by kernel_rfl) (fun _ _ _ h => h) (Or.inl ⟨by rfl, ?_⟩) (by assumption) ?_; rotate_left; (intro w hSw; (try dsimp only at hSw); go_simp); (try with_reducible rfl); (try simp only [Act.put, List.setIfInBounds_toArray, List.set_cons_zero, List.set_cons_succ])
  refine reg_take (v := ?_) 8 rfl (by kernel_rfl) (by kernel_rfl) (by kernel_rfl) (fun _ _ _ h => h) (Or.inl ⟨by rfl, ?_⟩) (by assumption) ?_; rotate_left; (intro w hSw; (try dsimp only at hSw); go_simp); (try with_reducible rfl); (try simp only [Act.put, List.setIfInBounds_toArray, List.set_cons_zero, List.set_cons_succ])
  refine reg_take (v := ?_) 9 rfl (by kernel_rfl) (by kernel_rfl) (by kernel_rfl) (fun _ _ _ h => h) (Or.inl ⟨by rfl, ?_⟩) (by assumption) ?_; rotate_left; (intro w hSw; (try dsimp only at hSw); go_simp); (try with_reducible rfl); (try simp only [Act.put, List.setIfInBounds_toArray, List.set_cons_zero, List.set_cons_succ])
  refine reg_take (v := ?_) 10 rfl (by kernel_rfl) (by kernel_rfl) (by kernel_rfl) (fun _ _ _ h => h) (Or.inl ⟨by rfl, ?_⟩) (by assumption) ?_; rotate_left; (intro w hSw; (try dsimp only at hSw); go_simp); (try with_reducible rfl); (try simp only [Act.put, List.setIfInBounds_toArray, List.set_cons_zero, List.set_cons_succ])
  refine reg_only 5 rfl (by kernel_rfl) (fun K hK => ?_); go_simp; refine (hC1.out _ (HR.out.below Y.out) (HD.out.below Y.out) (HK.out.below Y.out)).mono ?_; rintro e' u1 ⟨rfl, hbu1⟩; have Y := hid (below_chain Y.out hbu1); have X5 := hid (X5.out.belowS hbu1); have hr0 : u1.rangeAt w.heap.size 0 RA := (by have := X5.out.range; simpa using this); refine hK.out _ _ ?_ (fun hHeld => ?_); (exact hr0); clear hK K; (try simp only [Act.put, List.setIfInBounds_toArray, List.set_cons_zero, List.set_cons_succ])
  refine reg_only 11 rfl (by kernel_rfl) (fun K hK => ?_); go_simp; refine (hC2.out _ (HR.out.below Y.out) (HD.out.below Y.out)).mono ?_; rintro e' u2 ⟨rfl, hbu2⟩; have Y := hid (below_chain Y.out hbu2); have X5 := hid (X5.out.belowS hbu2); have hr0 : u2.rangeAt w.heap.size 0 RA := (by have := X5.out.range; simpa using this); refine hK.out _ _ ?_ (fun hHeld => ?_); (exact hr0); clear hK K; (try simp only [Act.put, List.setIfInBounds_toArray, List.set_cons_zero, List.set_cons_succ])
  refine reg_take (v := ?_) 12 rfl (by kernel_rfl) (by kernel_rfl) (by kernel_rfl) (fun _ _ _ h => h) (Or.inl ⟨by rfl, ?_⟩) (by assumption) ?_; rotate_left; (intro w hSw; (try dsimp only at hSw); go_simp); (try with_reducible rfl); (try simp only [Act.put, List.setIfInBounds_toArray, List.set_cons_zero, List.set_cons_succ])
  refine reg_take (v := ?_) 13 rfl (by kernel_rfl) (by kernel_rfl) (by kernel_rfl) (fun _ _ _ h => h) (Or.inl ⟨by rfl, ?_⟩) (by assumption) ?_; rotate_left; (intro w hSw; (try dsimp only at hSw); go_simp); (try with_reducible rfl); (try simp only [Act.put, List.setIfInBounds_toArray, List.set_cons_zero, List.set_cons_succ])
  refine wpAnyH_done (by kernel_rfl) ?_ _
  go_wp2
  go_ret
  exact ⟨by simp, Y.out⟩
namespace rowsFit
theorem rowsFit_law {W : World} (a0 : List UInt8) (l0 : a0.length = 32) (a1 : Int) (w1 : (Lit.int .i64 a1).wf = true) (a2 : Int) (w2 : (Lit.int .i64 a2).wf = true) (a3 : Option Addr) (len3 cap3 : Nat) (z3 : List Int) (w3 : IsRow .u8 W a3 len3 cap3 z3) (a4 : Option Addr) (n4 c4 : Nat) (l4 : List (List UInt8)) (w4 : Digs W a4 n4 l4 ∧ n4 ≤ c4) (hK : KOk W) :
    Calls Tryd.prog 3 #[.agg (a0.map bv).toArray, .int .i64 a1, .int .i64 a2, .slice a3 len3 cap3, .slice a4 n4 c4] W fun e w' => e = .returned (.bool true) ∧ Below W.heap.size W w' := by
  obtain ⟨_, bs, hr⟩ := isRow_rd w3
  exact fit_walk a0 l0 a1 a2 a3 a4 len3 cap3 n4 c4 bs l4 W hr w4.1 w4.2 hK
end rowsFit
end Go.Proofs.YtheljogmnalbmaaDoor
