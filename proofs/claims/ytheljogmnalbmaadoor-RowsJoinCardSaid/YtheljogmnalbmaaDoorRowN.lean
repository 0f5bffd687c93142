/-
  The law RowsJoin walked, at any rows.
-/
import Derived.Test.YtheljogmnalbmaaDoorRowL
import Derived.Test.YtheljogmnalbmaaDoorRowM
namespace Go.Proofs.YtheljogmnalbmaaDoor
open Go.RowKit
set_option linter.unusedSimpArgs false
set_option linter.unusedVariables false

theorem great16 (P : Option Addr) (np pc : Nat) (pss : List (List UInt8)) (w : World) (hP : Parts w P np pss) (b : Bool) (hb : greatB 16 pss = b) :
    Calls Tryd.prog 11 #[.slice P np pc, .int .i64 16] w fun e w' => e = .returned (.bool b) ∧ w' = w := great_any P np pc 16 (by omega) pss w hP b hb
/-- A digest and an error, the values given. -/
def GivesVX (w : World) (L : List Value) (x : Int) (e : Ending) (w' : World) : Prop := e = .returned (.tuple #[.agg L.toArray, .int .i64 x]) ∧ Below w.heap.size w w'
theorem root_v (P : Option Addr) (np pc : Nat) (pss : List (List UInt8)) (w : World) (hP : Parts w P np pss) (hpc : np ≤ pc) (hK : KOk w) : Calls Tryd.prog 12 #[.slice P np pc] w (GivesVX w ((rootE pss).1.map bv) (rootE pss).2) := rootE_any P np pc pss w hP hpc hK

set_option maxRecDepth 100000 in
set_option maxHeartbeats 4000000 in
theorem join_great (P Q : Option Addr) (np pc m mc : Nat) (l o : List (List UInt8)) (w : World) (hP : Parts w P np l) (hQ : Parts w Q m o) (hK : KOk w) (h : greatB 16 l = true ∨ greatB 16 o = true) :
    Calls Tryd.prog 4 #[.slice P np pc, .slice Q m mc] w fun e w' => e = .returned (.bool true) ∧ Below w.heap.size w w' := by
  have HP := hid hP
  have HQ := hid hQ
  have hAl := hid (alive_any w hK)
  have hG1 := hid (fun W (h : Parts W P np l) => great16 P np pc l W h _ rfl)
  have hG2 := hid (fun W (h : Parts W Q m o) => great16 Q m mc o W h _ rfl)
  clear hP hQ hK
  by_cases hl : greatB 16 l = true
  · rw [hl] at hG1
    clear h
    go_enter Tryd.func4, Tryd.ntmps4
    go_wp2_with (first
      | ((with_reducible refine hAl.out.mono ?_); rintro e w1 ⟨rfl, hb1⟩)
      | ((with_reducible refine (hG1.out _ (HP.out.below hb1)).mono ?_); rintro e w2 ⟨rfl, hv⟩; subst hv))
    go_ret
    exact ⟨rfl, hb1⟩
  · have hl' : greatB 16 l = false := by simpa using hl
    have ho : greatB 16 o = true := h.resolve_left hl
    rw [hl'] at hG1
    rw [ho] at hG2
    clear h hl
    go_enter Tryd.func4, Tryd.ntmps4
    go_wp2_with (first
      | ((with_reducible refine hAl.out.mono ?_); rintro e w1 ⟨rfl, hb1⟩)
      | ((with_reducible refine (hG1.out _ (HP.out.below hb1)).mono ?_); rintro e w2 ⟨rfl, hv⟩; subst hv)
      | ((with_reducible refine (hG2.out _ (HQ.out.below hb1)).mono ?_); rintro e w3 ⟨rfl, hv⟩; subst hv))
    go_ret
    exact ⟨rfl, hb1⟩

set_option maxRecDepth 100000 in
set_option maxHeartbeats 4000000 in
theorem join_other (P Q : Option Addr) (np pc m mc : Nat) (l o : List (List UInt8)) (w : World) (hP : Parts w P np l) (hQ : Parts w Q m o) (hK : KOk w) (hl : greatB 16 l = false) (ho : greatB 16 o = false)
    (h1 : ¬ np = 1) (h2 : ¬ np = 2) (h4 : ¬ np = 4) (h8 : ¬ np = 8) (h16 : ¬ np = 16) :
    Calls Tryd.prog 4 #[.slice P np pc, .slice Q m mc] w fun e w' => e = .returned (.bool true) ∧ Below w.heap.size w w' := by
  have HP := hid hP
  have HQ := hid hQ
  have hAl := hid (alive_any w hK)
  have hG1 := hid (fun W (h : Parts W P np l) => great16 P np pc l W h _ rfl)
  have hG2 := hid (fun W (h : Parts W Q m o) => great16 Q m mc o W h _ rfl)
  rw [hl] at hG1
  rw [ho] at hG2
  have i1 : ((np : Int) == 1) = false := by simp; omega
  have i2 : ((np : Int) == 2) = false := by simp; omega
  have i4 : ((np : Int) == 4) = false := by simp; omega
  have i8 : ((np : Int) == 8) = false := by simp; omega
  have i16 : ((np : Int) == 16) = false := by simp; omega
  have j1 : ¬ (np : Int) = 1 := by omega
  have j2 : ¬ (np : Int) = 2 := by omega
  have j4 : ¬ (np : Int) = 4 := by omega
  have j8 : ¬ (np : Int) = 8 := by omega
  have j16 : ¬ (np : Int) = 16 := by omega
  clear hP hQ hK hl ho h1 h2 h4 h8 h16
  go_enter Tryd.func4, Tryd.ntmps4
  go_wp2_with (first
    | ((with_reducible refine hAl.out.mono ?_); rintro e w1 ⟨rfl, hb1⟩)
    | ((with_reducible refine (hG1.out _ (HP.out.below hb1)).mono ?_); rintro e w2 ⟨rfl, hv⟩; subst hv)
    | ((with_reducible refine (hG2.out _ (HQ.out.below hb1)).mono ?_); rintro e w3 ⟨rfl, hv⟩; subst hv))
  go_ret
  exact ⟨rfl, hb1⟩

set_option maxRecDepth 100000 in
set_option maxHeartbeats 8000000 in
theorem join1_any (P Q : Option Addr) (pc m mc : Nat) (l o : List (List UInt8)) (w : World) (hP : Parts w P 1 l) (hQ : Parts w Q m o) (hpc : 1 ≤ pc) (hmc : m ≤ mc) (hK : KOk w) (hl : greatB 16 l = false) (ho : greatB 16 o = false) :
    Calls Tryd.prog 4 #[.slice P 1 pc, .slice Q m mc] w fun e w' => e = .returned (.bool true) ∧ Below w.heap.size w w' := by
  have HP := hid hP
  have HQ := hid hQ
  have HK := hid hK
  have hAl := hid (alive_any w hK)
  have hG1 := hid (fun W (h : Parts W P 1 l) => great16 P 1 pc l W h _ rfl)
  have hG2 := hid (fun W (h : Parts W Q m o) => great16 Q m mc o W h _ rfl)
  rw [hl] at hG1
  rw [ho] at hG2
  obtain ⟨gl1, gl2⟩ := greatB_parts hl
  obtain ⟨go1, go2⟩ := greatB_parts ho
  rw [hP.1] at gl1
  rw [hQ.1] at go1
  by_cases hm0 : m = 0
  · subst hm0
    clear hP hQ hK hl ho gl2 go2
    go_enter Tryd.func4, Tryd.ntmps4
    go_wp2_with (first
      | ((with_reducible refine hAl.out.mono ?_); rintro e w1 ⟨rfl, hb1⟩)
      | ((with_reducible refine (hG1.out _ (HP.out.below hb1)).mono ?_); rintro e w2 ⟨rfl, hv⟩; subst hv)
      | ((with_reducible refine (hG2.out _ (HQ.out.below hb1)).mono ?_); rintro e w3 ⟨rfl, hv⟩; subst hv))
    go_ret
    exact ⟨rfl, hb1⟩
  have i0 : ((m : Int) == 0) = false := by simp; omega
  have j0 : ¬ (m : Int) = 0 := by omega
  by_cases hmv : (m : Int) > 1
  · clear hP hQ hK hl ho gl2 go2
    go_enter Tryd.func4, Tryd.ntmps4
    go_wp2_with (first
      | ((with_reducible refine hAl.out.mono ?_); rintro e w1 ⟨rfl, hb1⟩)
      | ((with_reducible refine (hG1.out _ (HP.out.below hb1)).mono ?_); rintro e w2 ⟨rfl, hv⟩; subst hv)
      | ((with_reducible refine (hG2.out _ (HQ.out.below hb1)).mono ?_); rintro e w3 ⟨rfl, hv⟩; subst hv))
    go_ret
    exact ⟨rfl, hb1⟩
  have hcase := join_cases (k := 0) (l := l) (o := o) (by decide) hP.1 (by rw [hQ.1]; omega) (by rw [hQ.1]; omega)
  have hR1 := hid (fun W (h : Parts W P 1 l) (k : KOk W) => root_v P 1 pc l W h hpc k)
  have hR2 := hid (fun W (h : Parts W Q m o) (k : KOk W) => root_v Q m mc o W h hmc k)
  have hR3 := hid (fun W D c (h : Parts W D (1 + m) (l ++ o)) (h2 : 1 + m ≤ c) (k : KOk W) => root_v D (1 + m) c (l ++ o) W h h2 k)
  have n1 := rootE_len l
  have n2 := rootE_len o
  have n3 := rootE_len (l ++ o)
  have hF := hid (fun W (k : KOk W) => forkD_any _ _ n1 n2 W k)
  unfold GivesD at hF
  unfold GivesVX at hR1 hR2 hR3
  generalize rootE l = E1 at *
  generalize rootE o = E2 at *
  generalize rootE (l ++ o) = E3 at *
  obtain ⟨d1, e1⟩ := E1
  obtain ⟨d2, e2⟩ := E2
  obtain ⟨d3, e3⟩ := E3
  dsimp only at *
  have hCase := hid hcase
  have hE := run_eq_dig _ _ n3 (digOf_len 8 [d1, d2])
  have z1 := digZ _ n1
  have z2 := digZ _ n2
  have z3 := digZ _ n3
  have hL1 : (Tryd.prog.info? 23).map (·.size) = some (d1.map bv).length := by rw [digS _ n1, List.size_toArray]
  have hL2 : (Tryd.prog.info? 23).map (·.size) = some (d2.map bv).length := by rw [digS _ n2, List.size_toArray]
  have hL3 : (Tryd.prog.info? 23).map (·.size) = some (d3.map bv).length := by rw [digS _ n3, List.size_toArray]
  have o1 := hid (oneBv' d1)
  have o2 := hid (oneBv' d2)
  have o3 := hid (oneBv' d3)
  have hu := Tryd.underlying23
  obtain ⟨L1, hL1e⟩ : ∃ L, d1.map bv = L := ⟨_, rfl⟩
  obtain ⟨L2, hL2e⟩ : ∃ L, d2.map bv = L := ⟨_, rfl⟩
  obtain ⟨L3, hL3e⟩ : ∃ L, d3.map bv = L := ⟨_, rfl⟩
  obtain ⟨L4, hL4e⟩ : ∃ L, (digOf 8 [d1, d2]).map bv = L := ⟨_, rfl⟩
  rw [hL1e] at hL1 o1 z1 hR1 hF
  rw [hL2e] at hL2 o2 z2 hR2 hF
  rw [hL3e] at hL3 o3 z3 hR3 hE
  rw [hL4e] at hE hF
  obtain ⟨q, hq⟩ : ∃ q, decide (d3 = digOf 8 [d1, d2]) = q := ⟨_, rfl⟩
  rw [hq] at hE
  have hQq := hid hq
  obtain ⟨xs, hxr, hxh⟩ := parts_heads hP
  obtain ⟨ys, hyr, hyh⟩ := parts_heads hQ
  have HX := hid hxr
  have HY := hid hyr
  have HXh := hid hxh
  have HYh := hid hyh
  have hx1 := hid hxh.one
  have hy1 := hid hyh.one
  obtain ⟨i0', hi0, hz0, hz1, hz2⟩ := info_parts slice_info
  have hm16 : m ≤ 16 := by omega
  clear hP hQ hK hl ho gl2 go2 hcase hxr hyr hxh hyh hL1e hL2e hL3e hL4e hq n1 n2 n3
  go_enter Tryd.func4, Tryd.ntmps4
  go_upto_region 5 with (first
    | ((with_reducible refine hAl.out.mono ?_); rintro e w1 ⟨rfl, hb1⟩)
    | ((with_reducible refine (hG1.out _ (HP.out.below hb1)).mono ?_); rintro e v2 ⟨rfl, hv⟩; subst hv)
    | ((with_reducible refine (hG2.out _ (HQ.out.below hb1)).mono ?_); rintro e v3 ⟨rfl, hv⟩; subst hv))
  clear hAl hG1 hG2
  go_upto_region 6 with (first
    | ((with_reducible refine (hR1.out _ (HP.out.below hb1) (HK.out.below hb1)).mono ?_); rintro e w2 ⟨rfl, hb2⟩)
    | ((with_reducible refine at_alloc (d := some 7) 23 ?_); refine wpList_al rfl 23 rfl zeroD (zeroD_run _) ?_; intro w3 hB3 hb3 hy; clear hy)
    | ((with_reducible refine at_store 23 ?_); refine wpList_str rfl 23 _ _ rfl w2.heap.size L1.toArray rfl rfl _ zeroD hB3 (by simpa using z1) zeroD_size (by simpa using o1.out) ?_; intro w4 hB4 hg4 hy; clear hy))
  have q24 : Below w2.heap.size w2 w4 := hb3.grown hg4 hb3.size (by intro k e; cases e; exact Nat.le_refl _)
  have Y := hid (below_chain hb1 (below_chain hb2 q24))
  have X1 := hid hB4
  clear hB3 hb3 hg4 hB4 hb1 hb2 q24 hR1
  go_upto_region 7 with (first
    | ((with_reducible refine (hR2.out _ (HQ.out.below Y.out) (HK.out.below Y.out)).mono ?_); rintro e w5 ⟨rfl, hb5⟩)
    | ((with_reducible refine at_alloc (d := some 9) 23 ?_); refine wpList_al rfl 23 rfl zeroD (zeroD_run _) ?_; intro w6 hB6 hb6 hy; clear hy)
    | ((with_reducible refine at_store 23 ?_); refine wpList_str rfl 23 _ _ rfl w5.heap.size L2.toArray rfl rfl _ zeroD hB6 (by simpa using z2) zeroD_size (by simpa using o2.out) ?_; intro w7 hB7 hg7 hy; clear hy))
  have q57 : Below w5.heap.size w5 w7 := hb6.grown hg7 hb6.size (by intro k e; cases e; exact Nat.le_refl _)
  have q47 := below_chain hb5 q57
  have X1 := hid (X1.out.belowS q47)
  have Y := hid (below_chain Y.out q47)
  have X2 := hid hB7
  clear hB6 hb6 hg7 hB7 hb5 q57 q47 hR2
  have hRX := hid ((HX.out.below Y.out).alloc (.cells #[] 24))
  have hRY := hid (HY.out.below Y.out)
  have hXY := hid ((HXh.out.below Y.out).app (HYh.out.below Y.out))
  have hKy := hid (HK.out.below Y.out)
  go_upto_region 8 with (first
    | (at_builtin; refine wpList_app _ rfl _ _ _ rfl w7.heap.size 24 i0' _ 1 24 Tryd.underlying27 hi0 hz0 hz1 hz2 rfl (by omega) _ 0 0 [] rfl (Go.Proofs.YtheljogmnalbmaaDoor.Own.nil _ _ _ _ _) P 1 pc 0 xs rfl hRX.out hx1.out (by simp only [maxLen]; omega) (by omega) (by simp) ?_; intro D8 c8 w8 ho8 hg8 ht8; have hO8 := hid (show Go.Proofs.YtheljogmnalbmaaDoor.Own w8 w7.heap.size 24 1 D8 1 c8 xs by simpa using ho8); have hb8 : Below w7.heap.size w7 w8 := below_al (below_of_grown hg8 (Nat.le_refl _) (fun k e => by cases e)); have hB8 := hid hb8; clear ho8 hg8 ht8 hb8)
    | (at_builtin; refine wpList_app _ rfl _ _ _ rfl w7.heap.size 24 i0' _ 1 24 Tryd.underlying27 hi0 hz0 hz1 hz2 rfl (by omega) D8 1 c8 xs rfl hO8.out Q m mc 0 ys rfl (hRY.out.below hB8.out) hy1.out (by simp only [maxLen]; omega) (by omega) hB8.out.size ?_; intro D9 c9 w9 ho9 hg9 ht9; have hb9 : Below w7.heap.size w7 w9 := hO8.out.grows hg9 hB8.out hB8.out.size; have hB9 := hid hb9; have hO9 := hid ho9; have hPt := hid (parts_of_heads ho9 (hXY.out.below hb9)); clear ho9 hg9 ht9 hb9)
    | ((with_reducible refine (hR3.out _ _ _ hPt.out hO9.out.cap.1 (hKy.out.below hB9.out)).mono ?_); rintro e wa ⟨rfl, hba⟩)
    | ((with_reducible refine at_alloc (d := some 11) 23 ?_); refine wpList_al rfl 23 rfl zeroD (zeroD_run _) ?_; intro wb hBb hbb hy; clear hy)
    | ((with_reducible refine at_store 23 ?_); refine wpList_str rfl 23 _ _ rfl wa.heap.size L3.toArray rfl rfl _ zeroD hBb (by simpa using z3) zeroD_size (by simpa using o3.out) ?_; intro wc hBc hgc hy; clear hy))
  have qac : Below wa.heap.size wa wc := hbb.grown hgc hbb.size (by intro k e; cases e; exact Nat.le_refl _)
  have q7c := below_chain hB9.out (below_chain hba qac)
  have X1 := hid (X1.out.belowS q7c)
  have X2 := hid (X2.out.belowS q7c)
  have X3 := hid hBc
  have Y := hid (below_chain Y.out q7c)
  have KC := hid (HK.out.below Y.out)
  clear hBb hbb hgc hBc hba qac q7c hR3 hPt hO9 hB9 hO8 hB8 hRX hRY hXY hKy HX HY HXh HYh hx1 hy1 hi0 hz0 hz1 hz2 o1 o2 o3 z1 z2 z3
  rcases hCase.out with ⟨f1, f2, f3, f4⟩ | ⟨f1, f2, f3⟩ | ⟨f1, f3⟩
  · subst f1 f2 f3
    have hq : q = true := by rw [← hQq.out, decide_eq_true f4]
    subst hq
    clear f4 hCase hQq
    go_wp2_with fail
    have Y := hid (below_drew1 Y.out)
    have X1 := hid X1.out.drew
    have X2 := hid X2.out.drew
    have X3 := hid X3.out.drew
    have KC := hid (HK.out.below Y.out)
    have hr0 : wc.drew.rangeAt w2.heap.size 0 L1 ∧ wc.drew.rangeAt w5.heap.size 0 L2 ∧ wc.drew.rangeAt wa.heap.size 0 L3 := ⟨by have := X1.out.range; simpa using this, by have := X2.out.range; simpa using this, by have := X3.out.range; simpa using this⟩
    refine wp_region_held_drew (S := (fun w' => w'.rangeAt w2.heap.size 0 L1 ∧ w'.rangeAt w5.heap.size 0 L2 ∧ w'.rangeAt wa.heap.size 0 L3)) (by kernel_rfl) hr0 (fun hHeld => ?_)
    refine reg_take (v := ?_) 0 rfl (by kernel_rfl) (by kernel_rfl) (by kernel_rfl) (fun _ _ _ h => h) (Or.inl ⟨by rfl, ?_⟩) (by assumption) ?_; rotate_left; (intro w hSw; (try dsimp only at hSw); go_simp); (try with_reducible rfl); (try simp only [Act.put, List.setIfInBounds_toArray, List.set_cons_zero, List.set_cons_succ])
    refine reg_take (v := ?_) 1 rfl (by kernel_rfl) (by kernel_rfl) (by kernel_rfl) (fun _ _ _ h => h) (Or.inl ⟨by rfl, ?_⟩) (by assumption) ?_; rotate_left; (intro w hSw; (try dsimp only at hSw); go_simp); (try with_reducible rfl); (try simp only [Act.put, List.setIfInBounds_toArray, List.set_cons_zero, List.set_cons_succ])
    refine reg_take (v := ?_) 2 rfl (by kernel_rfl) (by kernel_rfl) (by kernel_rfl) (fun _ _ _ h => h) (Or.inl ⟨by rfl, ?_⟩) (by assumption) ?_; rotate_left; (intro w hSw; (try dsimp only at hSw); go_simp); (try with_reducible rfl); (try simp only [Act.put, List.setIfInBounds_toArray, List.set_cons_zero, List.set_cons_succ])
    refine reg_take (v := ?_) 3 rfl (by kernel_rfl) (by kernel_rfl) (by kernel_rfl) (fun _ _ _ h => h) (Or.inl ⟨by rfl, ?_⟩) (by assumption) ?_; rotate_left; (intro w hSw; (try dsimp only at hSw); go_simp); (try with_reducible rfl); (try simp only [Act.put, List.setIfInBounds_toArray, List.set_cons_zero, List.set_cons_succ])
    refine reg_take (v := ?_) 4 rfl (by kernel_rfl) (by kernel_rfl) (by kernel_rfl) (fun _ _ _ h => h) (Or.inl ⟨by rfl, ?_⟩) (by assumption) ?_; rotate_left; (intro w hSw; (try dsimp only at hSw); go_simp); (try with_reducible rfl); (try simp only [Act.put, List.setIfInBounds_toArray, List.set_cons_zero, List.set_cons_succ])
    refine reg_take (v := ?_) 5 rfl (by kernel_rfl) (by kernel_rfl) (by kernel_rfl) (fun _ _ _ h => h) (Or.inl ⟨by rfl, ?_⟩) (by assumption) ?_; rotate_left; (intro w hSw; (try dsimp only at hSw); go_simp); (try with_reducible rfl); (try simp only [Act.put, List.setIfInBounds_toArray, List.set_cons_zero, List.set_cons_succ])
    refine reg_take 6 rfl (by kernel_rfl) (by kernel_rfl) (by kernel_rfl) (fun _ _ _ h => h) (yieldsIf_load_mid (by rfl) _ _ rfl _ _ rfl _ _ (by intro w hSw; (try dsimp only at hSw); go_split_ands; assumption) (by assumption) (by rfl) (by assumption)) (by assumption) ?_; (try simp only [Act.put, List.setIfInBounds_toArray, List.set_cons_zero, List.set_cons_succ])
    refine reg_take 7 rfl (by kernel_rfl) (by kernel_rfl) (by kernel_rfl) (fun _ _ _ h => h) (yieldsIf_load_mid (by rfl) _ _ rfl _ _ rfl _ _ (by intro w hSw; (try dsimp only at hSw); go_split_ands; assumption) (by assumption) (by rfl) (by assumption)) (by assumption) ?_; (try simp only [Act.put, List.setIfInBounds_toArray, List.set_cons_zero, List.set_cons_succ])
    refine reg_take 8 rfl (by kernel_rfl) (by kernel_rfl) (by kernel_rfl) (fun _ _ _ h => h) (yieldsIf_load_mid (by rfl) _ _ rfl _ _ rfl _ _ (by intro w hSw; (try dsimp only at hSw); go_split_ands; assumption) (by assumption) (by rfl) (by assumption)) (by assumption) ?_; (try simp only [Act.put, List.setIfInBounds_toArray, List.set_cons_zero, List.set_cons_succ])
    refine reg_only 9 rfl (by kernel_rfl) (fun K hK => ?_); go_simp; refine (hF.out _ KC.out).mono ?_; rintro e' u1 ⟨rfl, hbu⟩; have Y := hid (below_chain Y.out hbu); have X1 := hid (X1.out.belowS hbu); have X2 := hid (X2.out.belowS hbu); have X3 := hid (X3.out.belowS hbu); refine hK.out _ _ ?_ (fun hHeld => ?_); (exact ⟨by have := X1.out.range; simpa using this, by have := X2.out.range; simpa using this, by have := X3.out.range; simpa using this⟩); clear hK K; (try simp only [Act.put, List.setIfInBounds_toArray, List.set_cons_zero, List.set_cons_succ])
    refine reg_take (v := ?_) 10 rfl (by kernel_rfl) (by kernel_rfl) (by kernel_rfl) (fun _ _ _ h => h) (Or.inl ⟨by rfl, ?_⟩) (by assumption) ?_; rotate_left; (intro w hSw; (try dsimp only at hSw); go_simp); (try with_reducible rfl); (try simp only [Act.put, List.setIfInBounds_toArray, List.set_cons_zero, List.set_cons_succ])
    refine reg_take (v := ?_) 11 rfl (by kernel_rfl) (by kernel_rfl) (by kernel_rfl) (fun _ _ _ h => h) (Or.inl ⟨by rfl, ?_⟩) (by assumption) ?_; rotate_left; (intro w hSw; (try dsimp only at hSw); go_simp); (try with_reducible rfl); (try simp only [Act.put, List.setIfInBounds_toArray, List.set_cons_zero, List.set_cons_succ])
    refine reg_take (v := ?_) 12 rfl (by kernel_rfl) (by kernel_rfl) (by kernel_rfl) (fun _ _ _ h => h) (Or.inl ⟨by rfl, ?_⟩) (by assumption) ?_; rotate_left; (intro w hSw; (try dsimp only at hSw); go_simp); (try with_reducible rfl); (try simp only [Act.put, List.setIfInBounds_toArray, List.set_cons_zero, List.set_cons_succ])
    refine wpAnyH_done (by kernel_rfl) ?_ _
    go_wp2
    go_ret
    exact ⟨by simp, Y.out⟩
  · subst f1 f2 f3
    clear hCase hQq
    go_wp2
    go_ret
    exact ⟨rfl, Y.out⟩
  · subst f1 f3
    clear hCase hQq
    go_wp2
    go_ret
    exact ⟨rfl, Y.out⟩

set_option maxRecDepth 100000 in
set_option maxHeartbeats 8000000 in
theorem join2_any (P Q : Option Addr) (pc m mc : Nat) (l o : List (List UInt8)) (w : World) (hP : Parts w P 2 l) (hQ : Parts w Q m o) (hpc : 2 ≤ pc) (hmc : m ≤ mc) (hK : KOk w) (hl : greatB 16 l = false) (ho : greatB 16 o = false) :
    Calls Tryd.prog 4 #[.slice P 2 pc, .slice Q m mc] w fun e w' => e = .returned (.bool true) ∧ Below w.heap.size w w' := by
  have HP := hid hP
  have HQ := hid hQ
  have HK := hid hK
  have hAl := hid (alive_any w hK)
  have hG1 := hid (fun W (h : Parts W P 2 l) => great16 P 2 pc l W h _ rfl)
  have hG2 := hid (fun W (h : Parts W Q m o) => great16 Q m mc o W h _ rfl)
  rw [hl] at hG1
  rw [ho] at hG2
  obtain ⟨gl1, gl2⟩ := greatB_parts hl
  obtain ⟨go1, go2⟩ := greatB_parts ho
  rw [hP.1] at gl1
  rw [hQ.1] at go1
  by_cases hm0 : m = 0
  · subst hm0
    clear hP hQ hK hl ho gl2 go2
    go_enter Tryd.func4, Tryd.ntmps4
    go_wp2_with (first
      | ((with_reducible refine hAl.out.mono ?_); rintro e w1 ⟨rfl, hb1⟩)
      | ((with_reducible refine (hG1.out _ (HP.out.below hb1)).mono ?_); rintro e w2 ⟨rfl, hv⟩; subst hv)
      | ((with_reducible refine (hG2.out _ (HQ.out.below hb1)).mono ?_); rintro e w3 ⟨rfl, hv⟩; subst hv))
    go_ret
    exact ⟨rfl, hb1⟩
  have i0 : ((m : Int) == 0) = false := by simp; omega
  have j0 : ¬ (m : Int) = 0 := by omega
  by_cases hmv : (m : Int) > 2
  · clear hP hQ hK hl ho gl2 go2
    go_enter Tryd.func4, Tryd.ntmps4
    go_wp2_with (first
      | ((with_reducible refine hAl.out.mono ?_); rintro e w1 ⟨rfl, hb1⟩)
      | ((with_reducible refine (hG1.out _ (HP.out.below hb1)).mono ?_); rintro e w2 ⟨rfl, hv⟩; subst hv)
      | ((with_reducible refine (hG2.out _ (HQ.out.below hb1)).mono ?_); rintro e w3 ⟨rfl, hv⟩; subst hv))
    go_ret
    exact ⟨rfl, hb1⟩
  have hcase := join_cases (k := 1) (l := l) (o := o) (by decide) hP.1 (by rw [hQ.1]; omega) (by rw [hQ.1]; omega)
  have hR1 := hid (fun W (h : Parts W P 2 l) (k : KOk W) => root_v P 2 pc l W h hpc k)
  have hR2 := hid (fun W (h : Parts W Q m o) (k : KOk W) => root_v Q m mc o W h hmc k)
  have hR3 := hid (fun W D c (h : Parts W D (2 + m) (l ++ o)) (h2 : 2 + m ≤ c) (k : KOk W) => root_v D (2 + m) c (l ++ o) W h h2 k)
  have n1 := rootE_len l
  have n2 := rootE_len o
  have n3 := rootE_len (l ++ o)
  have hF := hid (fun W (k : KOk W) => forkD_any _ _ n1 n2 W k)
  unfold GivesD at hF
  unfold GivesVX at hR1 hR2 hR3
  generalize rootE l = E1 at *
  generalize rootE o = E2 at *
  generalize rootE (l ++ o) = E3 at *
  obtain ⟨d1, e1⟩ := E1
  obtain ⟨d2, e2⟩ := E2
  obtain ⟨d3, e3⟩ := E3
  dsimp only at *
  have hCase := hid hcase
  have hE := run_eq_dig _ _ n3 (digOf_len 8 [d1, d2])
  have z1 := digZ _ n1
  have z2 := digZ _ n2
  have z3 := digZ _ n3
  have hL1 : (Tryd.prog.info? 23).map (·.size) = some (d1.map bv).length := by rw [digS _ n1, List.size_toArray]
  have hL2 : (Tryd.prog.info? 23).map (·.size) = some (d2.map bv).length := by rw [digS _ n2, List.size_toArray]
  have hL3 : (Tryd.prog.info? 23).map (·.size) = some (d3.map bv).length := by rw [digS _ n3, List.size_toArray]
  have o1 := hid (oneBv' d1)
  have o2 := hid (oneBv' d2)
  have o3 := hid (oneBv' d3)
  have hu := Tryd.underlying23
  obtain ⟨L1, hL1e⟩ : ∃ L, d1.map bv = L := ⟨_, rfl⟩
  obtain ⟨L2, hL2e⟩ : ∃ L, d2.map bv = L := ⟨_, rfl⟩
  obtain ⟨L3, hL3e⟩ : ∃ L, d3.map bv = L := ⟨_, rfl⟩
  obtain ⟨L4, hL4e⟩ : ∃ L, (digOf 8 [d1, d2]).map bv = L := ⟨_, rfl⟩
  rw [hL1e] at hL1 o1 z1 hR1 hF
  rw [hL2e] at hL2 o2 z2 hR2 hF
  rw [hL3e] at hL3 o3 z3 hR3 hE
  rw [hL4e] at hE hF
  obtain ⟨q, hq⟩ : ∃ q, decide (d3 = digOf 8 [d1, d2]) = q := ⟨_, rfl⟩
  rw [hq] at hE
  have hQq := hid hq
  obtain ⟨xs, hxr, hxh⟩ := parts_heads hP
  obtain ⟨ys, hyr, hyh⟩ := parts_heads hQ
  have HX := hid hxr
  have HY := hid hyr
  have HXh := hid hxh
  have HYh := hid hyh
  have hx1 := hid hxh.one
  have hy1 := hid hyh.one
  obtain ⟨i0', hi0, hz0, hz1, hz2⟩ := info_parts slice_info
  have hm16 : m ≤ 16 := by omega
  clear hP hQ hK hl ho gl2 go2 hcase hxr hyr hxh hyh hL1e hL2e hL3e hL4e hq n1 n2 n3
  go_enter Tryd.func4, Tryd.ntmps4
  go_upto_region 5 with (first
    | ((with_reducible refine hAl.out.mono ?_); rintro e w1 ⟨rfl, hb1⟩)
    | ((with_reducible refine (hG1.out _ (HP.out.below hb1)).mono ?_); rintro e v2 ⟨rfl, hv⟩; subst hv)
    | ((with_reducible refine (hG2.out _ (HQ.out.below hb1)).mono ?_); rintro e v3 ⟨rfl, hv⟩; subst hv))
  clear hAl hG1 hG2
  go_upto_region 6 with (first
    | ((with_reducible refine (hR1.out _ (HP.out.below hb1) (HK.out.below hb1)).mono ?_); rintro e w2 ⟨rfl, hb2⟩)
    | ((with_reducible refine at_alloc (d := some 7) 23 ?_); refine wpList_al rfl 23 rfl zeroD (zeroD_run _) ?_; intro w3 hB3 hb3 hy; clear hy)
    | ((with_reducible refine at_store 23 ?_); refine wpList_str rfl 23 _ _ rfl w2.heap.size L1.toArray rfl rfl _ zeroD hB3 (by simpa using z1) zeroD_size (by simpa using o1.out) ?_; intro w4 hB4 hg4 hy; clear hy))
  have q24 : Below w2.heap.size w2 w4 := hb3.grown hg4 hb3.size (by intro k e; cases e; exact Nat.le_refl _)
  have Y := hid (below_chain hb1 (below_chain hb2 q24))
  have X1 := hid hB4
  clear hB3 hb3 hg4 hB4 hb1 hb2 q24 hR1
  go_upto_region 7 with (first
    | ((with_reducible refine (hR2.out _ (HQ.out.below Y.out) (HK.out.below Y.out)).mono ?_); rintro e w5 ⟨rfl, hb5⟩)
    | ((with_reducible refine at_alloc (d := some 9) 23 ?_); refine wpList_al rfl 23 rfl zeroD (zeroD_run _) ?_; intro w6 hB6 hb6 hy; clear hy)
    | ((with_reducible refine at_store 23 ?_); refine wpList_str rfl 23 _ _ rfl w5.heap.size L2.toArray rfl rfl _ zeroD hB6 (by simpa using z2) zeroD_size (by simpa using o2.out) ?_; intro w7 hB7 hg7 hy; clear hy))
  have q57 : Below w5.heap.size w5 w7 := hb6.grown hg7 hb6.size (by intro k e; cases e; exact Nat.le_refl _)
  have q47 := below_chain hb5 q57
  have X1 := hid (X1.out.belowS q47)
  have Y := hid (below_chain Y.out q47)
  have X2 := hid hB7
  clear hB6 hb6 hg7 hB7 hb5 q57 q47 hR2
  have hRX := hid ((HX.out.below Y.out).alloc (.cells #[] 24))
  have hRY := hid (HY.out.below Y.out)
  have hXY := hid ((HXh.out.below Y.out).app (HYh.out.below Y.out))
  have hKy := hid (HK.out.below Y.out)
  go_upto_region 8 with (first
    | (at_builtin; refine wpList_app _ rfl _ _ _ rfl w7.heap.size 24 i0' _ 1 24 Tryd.underlying27 hi0 hz0 hz1 hz2 rfl (by omega) _ 0 0 [] rfl (Go.Proofs.YtheljogmnalbmaaDoor.Own.nil _ _ _ _ _) P 2 pc 0 xs rfl hRX.out hx1.out (by simp only [maxLen]; omega) (by omega) (by simp) ?_; intro D8 c8 w8 ho8 hg8 ht8; have hO8 := hid (show Go.Proofs.YtheljogmnalbmaaDoor.Own w8 w7.heap.size 24 1 D8 2 c8 xs by simpa using ho8); have hb8 : Below w7.heap.size w7 w8 := below_al (below_of_grown hg8 (Nat.le_refl _) (fun k e => by cases e)); have hB8 := hid hb8; clear ho8 hg8 ht8 hb8)
    | (at_builtin; refine wpList_app _ rfl _ _ _ rfl w7.heap.size 24 i0' _ 1 24 Tryd.underlying27 hi0 hz0 hz1 hz2 rfl (by omega) D8 2 c8 xs rfl hO8.out Q m mc 0 ys rfl (hRY.out.below hB8.out) hy1.out (by simp only [maxLen]; omega) (by omega) hB8.out.size ?_; intro D9 c9 w9 ho9 hg9 ht9; have hb9 : Below w7.heap.size w7 w9 := hO8.out.grows hg9 hB8.out hB8.out.size; have hB9 := hid hb9; have hO9 := hid ho9; have hPt := hid (parts_of_heads ho9 (hXY.out.below hb9)); clear ho9 hg9 ht9 hb9)
    | ((with_reducible refine (hR3.out _ _ _ hPt.out hO9.out.cap.1 (hKy.out.below hB9.out)).mono ?_); rintro e wa ⟨rfl, hba⟩)
    | ((with_reducible refine at_alloc (d := some 11) 23 ?_); refine wpList_al rfl 23 rfl zeroD (zeroD_run _) ?_; intro wb hBb hbb hy; clear hy)
    | ((with_reducible refine at_store 23 ?_); refine wpList_str rfl 23 _ _ rfl wa.heap.size L3.toArray rfl rfl _ zeroD hBb (by simpa using z3) zeroD_size (by simpa using o3.out) ?_; intro wc hBc hgc hy; clear hy))
  have qac : Below wa.heap.size wa wc := hbb.grown hgc hbb.size (by intro k e; cases e; exact Nat.le_refl _)
  have q7c := below_chain hB9.out (below_chain hba qac)
  have X1 := hid (X1.out.belowS q7c)
  have X2 := hid (X2.out.belowS q7c)
  have X3 := hid hBc
  have Y := hid (below_chain Y.out q7c)
  have KC := hid (HK.out.below Y.out)
  clear hBb hbb hgc hBc hba qac q7c hR3 hPt hO9 hB9 hO8 hB8 hRX hRY hXY hKy HX HY HXh HYh hx1 hy1 hi0 hz0 hz1 hz2 o1 o2 o3 z1 z2 z3
  rcases hCase.out with ⟨f1, f2, f3, f4⟩ | ⟨f1, f2, f3⟩ | ⟨f1, f3⟩
  · subst f1 f2 f3
    have hq : q = true := by rw [← hQq.out, decide_eq_true f4]
    subst hq
    clear f4 hCase hQq
    go_wp2_with fail
    have Y := hid (below_drew1 Y.out)
    have X1 := hid X1.out.drew
    have X2 := hid X2.out.drew
    have X3 := hid X3.out.drew
    have KC := hid (HK.out.below Y.out)
    have hr0 : wc.drew.rangeAt w2.heap.size 0 L1 ∧ wc.drew.rangeAt w5.heap.size 0 L2 ∧ wc.drew.rangeAt wa.heap.size 0 L3 := ⟨by have := X1.out.range; simpa using this, by have := X2.out.range; simpa using this, by have := X3.out.range; simpa using this⟩
    refine wp_region_held_drew (S := (fun w' => w'.rangeAt w2.heap.size 0 L1 ∧ w'.rangeAt w5.heap.size 0 L2 ∧ w'.rangeAt wa.heap.size 0 L3)) (by kernel_rfl) hr0 (fun hHeld => ?_)
    refine reg_take (v := ?_) 0 rfl (by kernel_rfl) (by kernel_rfl) (by kernel_rfl) (fun _ _ _ h => h) (Or.inl ⟨by rfl, ?_⟩) (by assumption) ?_; rotate_left; (intro w hSw; (try dsimp only at hSw); go_simp); (try with_reducible rfl); (try simp only [Act.put, List.setIfInBounds_toArray, List.set_cons_zero, List.set_cons_succ])
    refine reg_take (v := ?_) 1 rfl (by kernel_rfl) (by kernel_rfl) (by kernel_rfl) (fun _ _ _ h => h) (Or.inl ⟨by rfl, ?_⟩) (by assumption) ?_; rotate_left; (intro w hSw; (try dsimp only at hSw); go_simp); (try with_reducible rfl); (try simp only [Act.put, List.setIfInBounds_toArray, List.set_cons_zero, List.set_cons_succ])
    refine reg_take (v := ?_) 2 rfl (by kernel_rfl) (by kernel_rfl) (by kernel_rfl) (fun _ _ _ h => h) (Or.inl ⟨by rfl, ?_⟩) (by assumption) ?_; rotate_left; (intro w hSw; (try dsimp only at hSw); go_simp); (try with_reducible rfl); (try simp only [Act.put, List.setIfInBounds_toArray, List.set_cons_zero, List.set_cons_succ])
    refine reg_take (v := ?_) 3 rfl (by kernel_rfl) (by kernel_rfl) (by kernel_rfl) (fun _ _ _ h => h) (Or.inl ⟨by rfl, ?_⟩) (by assumption) ?_; rotate_left; (intro w hSw; (try dsimp only at hSw); go_simp); (try with_reducible rfl); (try simp only [Act.put, List.setIfInBounds_toArray, List.set_cons_zero, List.set_cons_succ])
    refine reg_take (v := ?_) 4 rfl (by kernel_rfl) (by kernel_rfl) (by kernel_rfl) (fun _ _ _ h => h) (Or.inl ⟨by rfl, ?_⟩) (by assumption) ?_; rotate_left; (intro w hSw; (try dsimp only at hSw); go_simp); (try with_reducible rfl); (try simp only [Act.put, List.setIfInBounds_toArray, List.set_cons_zero, List.set_cons_succ])
    refine reg_take (v := ?_) 5 rfl (by kernel_rfl) (by kernel_rfl) (by kernel_rfl) (fun _ _ _ h => h) (Or.inl ⟨by rfl, ?_⟩) (by assumption) ?_; rotate_left; (intro w hSw; (try dsimp only at hSw); go_simp); (try with_reducible rfl); (try simp only [Act.put, List.setIfInBounds_toArray, List.set_cons_zero, List.set_cons_succ])
    refine reg_take 6 rfl (by kernel_rfl) (by kernel_rfl) (by kernel_rfl) (fun _ _ _ h => h) (yieldsIf_load_mid (by rfl) _ _ rfl _ _ rfl _ _ (by intro w hSw; (try dsimp only at hSw); go_split_ands; assumption) (by assumption) (by rfl) (by assumption)) (by assumption) ?_; (try simp only [Act.put, List.setIfInBounds_toArray, List.set_cons_zero, List.set_cons_succ])
    refine reg_take 7 rfl (by kernel_rfl) (by kernel_rfl) (by kernel_rfl) (fun _ _ _ h => h) (yieldsIf_load_mid (by rfl) _ _ rfl _ _ rfl _ _ (by intro w hSw; (try dsimp only at hSw); go_split_ands; assumption) (by assumption) (by rfl) (by assumption)) (by assumption) ?_; (try simp only [Act.put, List.setIfInBounds_toArray, List.set_cons_zero, List.set_cons_succ])
    refine reg_take 8 rfl (by kernel_rfl) (by kernel_rfl) (by kernel_rfl) (fun _ _ _ h => h) (yieldsIf_load_mid (by rfl) _ _ rfl _ _ rfl _ _ (by intro w hSw; (try dsimp only at hSw); go_split_ands; assumption) (by assumption) (by rfl) (by assumption)) (by assumption) ?_; (try simp only [Act.put, List.setIfInBounds_toArray, List.set_cons_zero, List.set_cons_succ])
    refine reg_only 9 rfl (by kernel_rfl) (fun K hK => ?_); go_simp; refine (hF.out _ KC.out).mono ?_; rintro e' u1 ⟨rfl, hbu⟩; have Y := hid (below_chain Y.out hbu); have X1 := hid (X1.out.belowS hbu); have X2 := hid (X2.out.belowS hbu); have X3 := hid (X3.out.belowS hbu); refine hK.out _ _ ?_ (fun hHeld => ?_); (exact ⟨by have := X1.out.range; simpa using this, by have := X2.out.range; simpa using this, by have := X3.out.range; simpa using this⟩); clear hK K; (try simp only [Act.put, List.setIfInBounds_toArray, List.set_cons_zero, List.set_cons_succ])
    refine reg_take (v := ?_) 10 rfl (by kernel_rfl) (by kernel_rfl) (by kernel_rfl) (fun _ _ _ h => h) (Or.inl ⟨by rfl, ?_⟩) (by assumption) ?_; rotate_left; (intro w hSw; (try dsimp only at hSw); go_simp); (try with_reducible rfl); (try simp only [Act.put, List.setIfInBounds_toArray, List.set_cons_zero, List.set_cons_succ])
    refine reg_take (v := ?_) 11 rfl (by kernel_rfl) (by kernel_rfl) (by kernel_rfl) (fun _ _ _ h => h) (Or.inl ⟨by rfl, ?_⟩) (by assumption) ?_; rotate_left; (intro w hSw; (try dsimp only at hSw); go_simp); (try with_reducible rfl); (try simp only [Act.put, List.setIfInBounds_toArray, List.set_cons_zero, List.set_cons_succ])
    refine reg_take (v := ?_) 12 rfl (by kernel_rfl) (by kernel_rfl) (by kernel_rfl) (fun _ _ _ h => h) (Or.inl ⟨by rfl, ?_⟩) (by assumption) ?_; rotate_left; (intro w hSw; (try dsimp only at hSw); go_simp); (try with_reducible rfl); (try simp only [Act.put, List.setIfInBounds_toArray, List.set_cons_zero, List.set_cons_succ])
    refine wpAnyH_done (by kernel_rfl) ?_ _
    go_wp2
    go_ret
    exact ⟨by simp, Y.out⟩
  · subst f1 f2 f3
    clear hCase hQq
    go_wp2
    go_ret
    exact ⟨rfl, Y.out⟩
  · subst f1 f3
    clear hCase hQq
    go_wp2
    go_ret
    exact ⟨rfl, Y.out⟩

set_option maxRecDepth 100000 in
set_option maxHeartbeats 8000000 in
theorem join4_any (P Q : Option Addr) (pc m mc : Nat) (l o : List (List UInt8)) (w : World) (hP : Parts w P 4 l) (hQ : Parts w Q m o) (hpc : 4 ≤ pc) (hmc : m ≤ mc) (hK : KOk w) (hl : greatB 16 l = false) (ho : greatB 16 o = false) :
    Calls Tryd.prog 4 #[.slice P 4 pc, .slice Q m mc] w fun e w' => e = .returned (.bool true) ∧ Below w.heap.size w w' := by
  have HP := hid hP
  have HQ := hid hQ
  have HK := hid hK
  have hAl := hid (alive_any w hK)
  have hG1 := hid (fun W (h : Parts W P 4 l) => great16 P 4 pc l W h _ rfl)
  have hG2 := hid (fun W (h : Parts W Q m o) => great16 Q m mc o W h _ rfl)
  rw [hl] at hG1
  rw [ho] at hG2
  obtain ⟨gl1, gl2⟩ := greatB_parts hl
  obtain ⟨go1, go2⟩ := greatB_parts ho
  rw [hP.1] at gl1
  rw [hQ.1] at go1
  by_cases hm0 : m = 0
  · subst hm0
    clear hP hQ hK hl ho gl2 go2
    go_enter Tryd.func4, Tryd.ntmps4
    go_wp2_with (first
      | ((with_reducible refine hAl.out.mono ?_); rintro e w1 ⟨rfl, hb1⟩)
      | ((with_reducible refine (hG1.out _ (HP.out.below hb1)).mono ?_); rintro e w2 ⟨rfl, hv⟩; subst hv)
      | ((with_reducible refine (hG2.out _ (HQ.out.below hb1)).mono ?_); rintro e w3 ⟨rfl, hv⟩; subst hv))
    go_ret
    exact ⟨rfl, hb1⟩
  have i0 : ((m : Int) == 0) = false := by simp; omega
  have j0 : ¬ (m : Int) = 0 := by omega
  by_cases hmv : (m : Int) > 4
  · clear hP hQ hK hl ho gl2 go2
    go_enter Tryd.func4, Tryd.ntmps4
    go_wp2_with (first
      | ((with_reducible refine hAl.out.mono ?_); rintro e w1 ⟨rfl, hb1⟩)
      | ((with_reducible refine (hG1.out _ (HP.out.below hb1)).mono ?_); rintro e w2 ⟨rfl, hv⟩; subst hv)
      | ((with_reducible refine (hG2.out _ (HQ.out.below hb1)).mono ?_); rintro e w3 ⟨rfl, hv⟩; subst hv))
    go_ret
    exact ⟨rfl, hb1⟩
  have hcase := join_cases (k := 2) (l := l) (o := o) (by decide) hP.1 (by rw [hQ.1]; omega) (by rw [hQ.1]; omega)
  have hR1 := hid (fun W (h : Parts W P 4 l) (k : KOk W) => root_v P 4 pc l W h hpc k)
  have hR2 := hid (fun W (h : Parts W Q m o) (k : KOk W) => root_v Q m mc o W h hmc k)
  have hR3 := hid (fun W D c (h : Parts W D (4 + m) (l ++ o)) (h2 : 4 + m ≤ c) (k : KOk W) => root_v D (4 + m) c (l ++ o) W h h2 k)
  have n1 := rootE_len l
  have n2 := rootE_len o
  have n3 := rootE_len (l ++ o)
  have hF := hid (fun W (k : KOk W) => forkD_any _ _ n1 n2 W k)
  unfold GivesD at hF
  unfold GivesVX at hR1 hR2 hR3
  generalize rootE l = E1 at *
  generalize rootE o = E2 at *
  generalize rootE (l ++ o) = E3 at *
  obtain ⟨d1, e1⟩ := E1
  obtain ⟨d2, e2⟩ := E2
  obtain ⟨d3, e3⟩ := E3
  dsimp only at *
  have hCase := hid hcase
  have hE := run_eq_dig _ _ n3 (digOf_len 8 [d1, d2])
  have z1 := digZ _ n1
  have z2 := digZ _ n2
  have z3 := digZ _ n3
  have hL1 : (Tryd.prog.info? 23).map (·.size) = some (d1.map bv).length := by rw [digS _ n1, List.size_toArray]
  have hL2 : (Tryd.prog.info? 23).map (·.size) = some (d2.map bv).length := by rw [digS _ n2, List.size_toArray]
  have hL3 : (Tryd.prog.info? 23).map (·.size) = some (d3.map bv).length := by rw [digS _ n3, List.size_toArray]
  have o1 := hid (oneBv' d1)
  have o2 := hid (oneBv' d2)
  have o3 := hid (oneBv' d3)
  have hu := Tryd.underlying23
  obtain ⟨L1, hL1e⟩ : ∃ L, d1.map bv = L := ⟨_, rfl⟩
  obtain ⟨L2, hL2e⟩ : ∃ L, d2.map bv = L := ⟨_, rfl⟩
  obtain ⟨L3, hL3e⟩ : ∃ L, d3.map bv = L := ⟨_, rfl⟩
  obtain ⟨L4, hL4e⟩ : ∃ L, (digOf 8 [d1, d2]).map bv = L := ⟨_, rfl⟩
  rw [hL1e] at hL1 o1 z1 hR1 hF
  rw [hL2e] at hL2 o2 z2 hR2 hF
  rw [hL3e] at hL3 o3 z3 hR3 hE
  rw [hL4e] at hE hF
  obtain ⟨q, hq⟩ : ∃ q, decide (d3 = digOf 8 [d1, d2]) = q := ⟨_, rfl⟩
  rw [hq] at hE
  have hQq := hid hq
  obtain ⟨xs, hxr, hxh⟩ := parts_heads hP
  obtain ⟨ys, hyr, hyh⟩ := parts_heads hQ
  have HX := hid hxr
  have HY := hid hyr
  have HXh := hid hxh
  have HYh := hid hyh
  have hx1 := hid hxh.one
  have hy1 := hid hyh.one
  obtain ⟨i0', hi0, hz0, hz1, hz2⟩ := info_parts slice_info
  have hm16 : m ≤ 16 := by omega
  clear hP hQ hK hl ho gl2 go2 hcase hxr hyr hxh hyh hL1e hL2e hL3e hL4e hq n1 n2 n3
  go_enter Tryd.func4, Tryd.ntmps4
  go_upto_region 5 with (first
    | ((with_reducible refine hAl.out.mono ?_); rintro e w1 ⟨rfl, hb1⟩)
    | ((with_reducible refine (hG1.out _ (HP.out.below hb1)).mono ?_); rintro e v2 ⟨rfl, hv⟩; subst hv)
    | ((with_reducible refine (hG2.out _ (HQ.out.below hb1)).mono ?_); rintro e v3 ⟨rfl, hv⟩; subst hv))
  clear hAl hG1 hG2
  go_upto_region 6 with (first
    | ((with_reducible refine (hR1.out _ (HP.out.below hb1) (HK.out.below hb1)).mono ?_); rintro e w2 ⟨rfl, hb2⟩)
    | ((with_reducible refine at_alloc (d := some 7) 23 ?_); refine wpList_al rfl 23 rfl zeroD (zeroD_run _) ?_; intro w3 hB3 hb3 hy; clear hy)
    | ((with_reducible refine at_store 23 ?_); refine wpList_str rfl 23 _ _ rfl w2.heap.size L1.toArray rfl rfl _ zeroD hB3 (by simpa using z1) zeroD_size (by simpa using o1.out) ?_; intro w4 hB4 hg4 hy; clear hy))
  have q24 : Below w2.heap.size w2 w4 := hb3.grown hg4 hb3.size (by intro k e; cases e; exact Nat.le_refl _)
  have Y := hid (below_chain hb1 (below_chain hb2 q24))
  have X1 := hid hB4
  clear hB3 hb3 hg4 hB4 hb1 hb2 q24 hR1
  go_upto_region 7 with (first
    | ((with_reducible refine (hR2.out _ (HQ.out.below Y.out) (HK.out.below Y.out)).mono ?_); rintro e w5 ⟨rfl, hb5⟩)
    | ((with_reducible refine at_alloc (d := some 9) 23 ?_); refine wpList_al rfl 23 rfl zeroD (zeroD_run _) ?_; intro w6 hB6 hb6 hy; clear hy)
    | ((with_reducible refine at_store 23 ?_); refine wpList_str rfl 23 _ _ rfl w5.heap.size L2.toArray rfl rfl _ zeroD hB6 (by simpa using z2) zeroD_size (by simpa using o2.out) ?_; intro w7 hB7 hg7 hy; clear hy))
  have q57 : Below w5.heap.size w5 w7 := hb6.grown hg7 hb6.size (by intro k e; cases e; exact Nat.le_refl _)
  have q47 := below_chain hb5 q57
  have X1 := hid (X1.out.belowS q47)
  have Y := hid (below_chain Y.out q47)
  have X2 := hid hB7
  clear hB6 hb6 hg7 hB7 hb5 q57 q47 hR2
  have hRX := hid ((HX.out.below Y.out).alloc (.cells #[] 24))
  have hRY := hid (HY.out.below Y.out)
  have hXY := hid ((HXh.out.below Y.out).app (HYh.out.below Y.out))
  have hKy := hid (HK.out.below Y.out)
  go_upto_region 8 with (first
    | (at_builtin; refine wpList_app _ rfl _ _ _ rfl w7.heap.size 24 i0' _ 1 24 Tryd.underlying27 hi0 hz0 hz1 hz2 rfl (by omega) _ 0 0 [] rfl (Go.Proofs.YtheljogmnalbmaaDoor.Own.nil _ _ _ _ _) P 4 pc 0 xs rfl hRX.out hx1.out (by simp only [maxLen]; omega) (by omega) (by simp) ?_; intro D8 c8 w8 ho8 hg8 ht8; have hO8 := hid (show Go.Proofs.YtheljogmnalbmaaDoor.Own w8 w7.heap.size 24 1 D8 4 c8 xs by simpa using ho8); have hb8 : Below w7.heap.size w7 w8 := below_al (below_of_grown hg8 (Nat.le_refl _) (fun k e => by cases e)); have hB8 := hid hb8; clear ho8 hg8 ht8 hb8)
    | (at_builtin; refine wpList_app _ rfl _ _ _ rfl w7.heap.size 24 i0' _ 1 24 Tryd.underlying27 hi0 hz0 hz1 hz2 rfl (by omega) D8 4 c8 xs rfl hO8.out Q m mc 0 ys rfl (hRY.out.below hB8.out) hy1.out (by simp only [maxLen]; omega) (by omega) hB8.out.size ?_; intro D9 c9 w9 ho9 hg9 ht9; have hb9 : Below w7.heap.size w7 w9 := hO8.out.grows hg9 hB8.out hB8.out.size; have hB9 := hid hb9; have hO9 := hid ho9; have hPt := hid (parts_of_heads ho9 (hXY.out.below hb9)); clear ho9 hg9 ht9 hb9)
    | ((with_reducible refine (hR3.out _ _ _ hPt.out hO9.out.cap.1 (hKy.out.below hB9.out)).mono ?_); rintro e wa ⟨rfl, hba⟩)
    | ((with_reducible refine at_alloc (d := some 11) 23 ?_); refine wpList_al rfl 23 rfl zeroD (zeroD_run _) ?_; intro wb hBb hbb hy; clear hy)
    | ((with_reducible refine at_store 23 ?_); refine wpList_str rfl 23 _ _ rfl wa.heap.size L3.toArray rfl rfl _ zeroD hBb (by simpa using z3) zeroD_size (by simpa using o3.out) ?_; intro wc hBc hgc hy; clear hy))
  have qac : Below wa.heap.size wa wc := hbb.grown hgc hbb.size (by intro k e; cases e; exact Nat.le_refl _)
  have q7c := below_chain hB9.out (below_chain hba qac)
  have X1 := hid (X1.out.belowS q7c)
  have X2 := hid (X2.out.belowS q7c)
  have X3 := hid hBc
  have Y := hid (below_chain Y.out q7c)
  have KC := hid (HK.out.below Y.out)
  clear hBb hbb hgc hBc hba qac q7c hR3 hPt hO9 hB9 hO8 hB8 hRX hRY hXY hKy HX HY HXh HYh hx1 hy1 hi0 hz0 hz1 hz2 o1 o2 o3 z1 z2 z3
  rcases hCase.out with ⟨f1, f2, f3, f4⟩ | ⟨f1, f2, f3⟩ | ⟨f1, f3⟩
  · subst f1 f2 f3
    have hq : q = true := by rw [← hQq.out, decide_eq_true f4]
    subst hq
    clear f4 hCase hQq
    go_wp2_with fail
    have Y := hid (below_drew1 Y.out)
    have X1 := hid X1.out.drew
    have X2 := hid X2.out.drew
    have X3 := hid X3.out.drew
    have KC := hid (HK.out.below Y.out)
    have hr0 : wc.drew.rangeAt w2.heap.size 0 L1 ∧ wc.drew.rangeAt w5.heap.size 0 L2 ∧ wc.drew.rangeAt wa.heap.size 0 L3 := ⟨by have := X1.out.range; simpa using this, by have := X2.out.range; simpa using this, by have := X3.out.range; simpa using this⟩
    refine wp_region_held_drew (S := (fun w' => w'.rangeAt w2.heap.size 0 L1 ∧ w'.rangeAt w5.heap.size 0 L2 ∧ w'.rangeAt wa.heap.size 0 L3)) (by kernel_rfl) hr0 (fun hHeld => ?_)
    refine reg_take (v := ?_) 0 rfl (by kernel_rfl) (by kernel_rfl) (by kernel_rfl) (fun _ _ _ h => h) (Or.inl ⟨by rfl, ?_⟩) (by assumption) ?_; rotate_left; (intro w hSw; (try dsimp only at hSw); go_simp); (try with_reducible rfl); (try simp only [Act.put, List.setIfInBounds_toArray, List.set_cons_zero, List.set_cons_succ])
    refine reg_take (v := ?_) 1 rfl (by kernel_rfl) (by kernel_rfl) (by kernel_rfl) (fun _ _ _ h => h) (Or.inl ⟨by rfl, ?_⟩) (by assumption) ?_; rotate_left; (intro w hSw; (try dsimp only at hSw); go_simp); (try with_reducible rfl); (try simp only [Act.put, List.setIfInBounds_toArray, List.set_cons_zero, List.set_cons_succ])
    refine reg_take (v := ?_) 2 rfl (by kernel_rfl) (by kernel_rfl) (by kernel_rfl) (fun _ _ _ h => h) (Or.inl ⟨by rfl, ?_⟩) (by assumption) ?_; rotate_left; (intro w hSw; (try dsimp only at hSw); go_simp); (try with_reducible rfl); (try simp only [Act.put, List.setIfInBounds_toArray, List.set_cons_zero, List.set_cons_succ])
    refine reg_take (v := ?_) 3 rfl (by kernel_rfl) (by kernel_rfl) (by kernel_rfl) (fun _ _ _ h => h) (Or.inl ⟨by rfl, ?_⟩) (by assumption) ?_; rotate_left; (intro w hSw; (try dsimp only at hSw); go_simp); (try with_reducible rfl); (try simp only [Act.put, List.setIfInBounds_toArray, List.set_cons_zero, List.set_cons_succ])
    refine reg_take (v := ?_) 4 rfl (by kernel_rfl) (by kernel_rfl) (by kernel_rfl) (fun _ _ _ h => h) (Or.inl ⟨by rfl, ?_⟩) (by assumption) ?_; rotate_left; (intro w hSw; (try dsimp only at hSw); go_simp); (try with_reducible rfl); (try simp only [Act.put, List.setIfInBounds_toArray, List.set_cons_zero, List.set_cons_succ])
    refine reg_take (v := ?_) 5 rfl (by kernel_rfl) (by kernel_rfl) (by kernel_rfl) (fun _ _ _ h => h) (Or.inl ⟨by rfl, ?_⟩) (by assumption) ?_; rotate_left; (intro w hSw; (try dsimp only at hSw); go_simp); (try with_reducible rfl); (try simp only [Act.put, List.setIfInBounds_toArray, List.set_cons_zero, List.set_cons_succ])
    refine reg_take 6 rfl (by kernel_rfl) (by kernel_rfl) (by kernel_rfl) (fun _ _ _ h => h) (yieldsIf_load_mid (by rfl) _ _ rfl _ _ rfl _ _ (by intro w hSw; (try dsimp only at hSw); go_split_ands; assumption) (by assumption) (by rfl) (by assumption)) (by assumption) ?_; (try simp only [Act.put, List.setIfInBounds_toArray, List.set_cons_zero, List.set_cons_succ])
    refine reg_take 7 rfl (by kernel_rfl) (by kernel_rfl) (by kernel_rfl) (fun _ _ _ h => h) (yieldsIf_load_mid (by rfl) _ _ rfl _ _ rfl _ _ (by intro w hSw; (try dsimp only at hSw); go_split_ands; assumption) (by assumption) (by rfl) (by assumption)) (by assumption) ?_; (try simp only [Act.put, List.setIfInBounds_toArray, List.set_cons_zero, List.set_cons_succ])
    refine reg_take 8 rfl (by kernel_rfl) (by kernel_rfl) (by kernel_rfl) (fun _ _ _ h => h) (yieldsIf_load_mid (by rfl) _ _ rfl _ _ rfl _ _ (by intro w hSw; (try dsimp only at hSw); go_split_ands; assumption) (by assumption) (by rfl) (by assumption)) (by assumption) ?_; (try simp only [Act.put, List.setIfInBounds_toArray, List.set_cons_zero, List.set_cons_succ])
    refine reg_only 9 rfl (by kernel_rfl) (fun K hK => ?_); go_simp; refine (hF.out _ KC.out).mono ?_; rintro e' u1 ⟨rfl, hbu⟩; have Y := hid (below_chain Y.out hbu); have X1 := hid (X1.out.belowS hbu); have X2 := hid (X2.out.belowS hbu); have X3 := hid (X3.out.belowS hbu); refine hK.out _ _ ?_ (fun hHeld => ?_); (exact ⟨by have := X1.out.range; simpa using this, by have := X2.out.range; simpa using this, by have := X3.out.range; simpa using this⟩); clear hK K; (try simp only [Act.put, List.setIfInBounds_toArray, List.set_cons_zero, List.set_cons_succ])
    refine reg_take (v := ?_) 10 rfl (by kernel_rfl) (by kernel_rfl) (by kernel_rfl) (fun _ _ _ h => h) (Or.inl ⟨by rfl, ?_⟩) (by assumption) ?_; rotate_left; (intro w hSw; (try dsimp only at hSw); go_simp); (try with_reducible rfl); (try simp only [Act.put, List.setIfInBounds_toArray, List.set_cons_zero, List.set_cons_succ])
    refine reg_take (v := ?_) 11 rfl (by kernel_rfl) (by kernel_rfl) (by kernel_rfl) (fun _ _ _ h => h) (Or.inl ⟨by rfl, ?_⟩) (by assumption) ?_; rotate_left; (intro w hSw; (try dsimp only at hSw); go_simp); (try with_reducible rfl); (try simp only [Act.put, List.setIfInBounds_toArray, List.set_cons_zero, List.set_cons_succ])
    refine reg_take (v := ?_) 12 rfl (by kernel_rfl) (by kernel_rfl) (by kernel_rfl) (fun _ _ _ h => h) (Or.inl ⟨by rfl, ?_⟩) (by assumption) ?_; rotate_left; (intro w hSw; (try dsimp only at hSw); go_simp); (try with_reducible rfl); (try simp only [Act.put, List.setIfInBounds_toArray, List.set_cons_zero, List.set_cons_succ])
    refine wpAnyH_done (by kernel_rfl) ?_ _
    go_wp2
    go_ret
    exact ⟨by simp, Y.out⟩
  · subst f1 f2 f3
    clear hCase hQq
    go_wp2
    go_ret
    exact ⟨rfl, Y.out⟩
  · subst f1 f3
    clear hCase hQq
    go_wp2
    go_ret
    exact ⟨rfl, Y.out⟩

set_option maxRecDepth 100000 in
set_option maxHeartbeats 8000000 in
theorem join8_any (P Q : Option Addr) (pc m mc : Nat) (l o : List (List UInt8)) (w : World) (hP : Parts w P 8 l) (hQ : Parts w Q m o) (hpc : 8 ≤ pc) (hmc : m ≤ mc) (hK : KOk w) (hl : greatB 16 l = false) (ho : greatB 16 o = false) :
    Calls Tryd.prog 4 #[.slice P 8 pc, .slice Q m mc] w fun e w' => e = .returned (.bool true) ∧ Below w.heap.size w w' := by
  have HP := hid hP
  have HQ := hid hQ
  have HK := hid hK
  have hAl := hid (alive_any w hK)
  have hG1 := hid (fun W (h : Parts W P 8 l) => great16 P 8 pc l W h _ rfl)
  have hG2 := hid (fun W (h : Parts W Q m o) => great16 Q m mc o W h _ rfl)
  rw [hl] at hG1
  rw [ho] at hG2
  obtain ⟨gl1, gl2⟩ := greatB_parts hl
  obtain ⟨go1, go2⟩ := greatB_parts ho
  rw [hP.1] at gl1
  rw [hQ.1] at go1
  by_cases hm0 : m = 0
  · subst hm0
    clear hP hQ hK hl ho gl2 go2
    go_enter Tryd.func4, Tryd.ntmps4
    go_wp2_with (first
      | ((with_reducible refine hAl.out.mono ?_); rintro e w1 ⟨rfl, hb1⟩)
      | ((with_reducible refine (hG1.out _ (HP.out.below hb1)).mono ?_); rintro e w2 ⟨rfl, hv⟩; subst hv)
      | ((with_reducible refine (hG2.out _ (HQ.out.below hb1)).mono ?_); rintro e w3 ⟨rfl, hv⟩; subst hv))
    go_ret
    exact ⟨rfl, hb1⟩
  have i0 : ((m : Int) == 0) = false := by simp; omega
  have j0 : ¬ (m : Int) = 0 := by omega
  by_cases hmv : (m : Int) > 8
  · clear hP hQ hK hl ho gl2 go2
    go_enter Tryd.func4, Tryd.ntmps4
    go_wp2_with (first
      | ((with_reducible refine hAl.out.mono ?_); rintro e w1 ⟨rfl, hb1⟩)
      | ((with_reducible refine (hG1.out _ (HP.out.below hb1)).mono ?_); rintro e w2 ⟨rfl, hv⟩; subst hv)
      | ((with_reducible refine (hG2.out _ (HQ.out.below hb1)).mono ?_); rintro e w3 ⟨rfl, hv⟩; subst hv))
    go_ret
    exact ⟨rfl, hb1⟩
  have hcase := join_cases (k := 3) (l := l) (o := o) (by decide) hP.1 (by rw [hQ.1]; omega) (by rw [hQ.1]; omega)
  have hR1 := hid (fun W (h : Parts W P 8 l) (k : KOk W) => root_v P 8 pc l W h hpc k)
  have hR2 := hid (fun W (h : Parts W Q m o) (k : KOk W) => root_v Q m mc o W h hmc k)
  have hR3 := hid (fun W D c (h : Parts W D (8 + m) (l ++ o)) (h2 : 8 + m ≤ c) (k : KOk W) => root_v D (8 + m) c (l ++ o) W h h2 k)
  have n1 := rootE_len l
  have n2 := rootE_len o
  have n3 := rootE_len (l ++ o)
  have hF := hid (fun W (k : KOk W) => forkD_any _ _ n1 n2 W k)
  unfold GivesD at hF
  unfold GivesVX at hR1 hR2 hR3
  generalize rootE l = E1 at *
  generalize rootE o = E2 at *
  generalize rootE (l ++ o) = E3 at *
  obtain ⟨d1, e1⟩ := E1
  obtain ⟨d2, e2⟩ := E2
  obtain ⟨d3, e3⟩ := E3
  dsimp only at *
  have hCase := hid hcase
  have hE := run_eq_dig _ _ n3 (digOf_len 8 [d1, d2])
  have z1 := digZ _ n1
  have z2 := digZ _ n2
  have z3 := digZ _ n3
  have hL1 : (Tryd.prog.info? 23).map (·.size) = some (d1.map bv).length := by rw [digS _ n1, List.size_toArray]
  have hL2 : (Tryd.prog.info? 23).map (·.size) = some (d2.map bv).length := by rw [digS _ n2, List.size_toArray]
  have hL3 : (Tryd.prog.info? 23).map (·.size) = some (d3.map bv).length := by rw [digS _ n3, List.size_toArray]
  have o1 := hid (oneBv' d1)
  have o2 := hid (oneBv' d2)
  have o3 := hid (oneBv' d3)
  have hu := Tryd.underlying23
  obtain ⟨L1, hL1e⟩ : ∃ L, d1.map bv = L := ⟨_, rfl⟩
  obtain ⟨L2, hL2e⟩ : ∃ L, d2.map bv = L := ⟨_, rfl⟩
  obtain ⟨L3, hL3e⟩ : ∃ L, d3.map bv = L := ⟨_, rfl⟩
  obtain ⟨L4, hL4e⟩ : ∃ L, (digOf 8 [d1, d2]).map bv = L := ⟨_, rfl⟩
  rw [hL1e] at hL1 o1 z1 hR1 hF
  rw [hL2e] at hL2 o2 z2 hR2 hF
  rw [hL3e] at hL3 o3 z3 hR3 hE
  rw [hL4e] at hE hF
  obtain ⟨q, hq⟩ : ∃ q, decide (d3 = digOf 8 [d1, d2]) = q := ⟨_, rfl⟩
  rw [hq] at hE
  have hQq := hid hq
  obtain ⟨xs, hxr, hxh⟩ := parts_heads hP
  obtain ⟨ys, hyr, hyh⟩ := parts_heads hQ
  have HX := hid hxr
  have HY := hid hyr
  have HXh := hid hxh
  have HYh := hid hyh
  have hx1 := hid hxh.one
  have hy1 := hid hyh.one
  obtain ⟨i0', hi0, hz0, hz1, hz2⟩ := info_parts slice_info
  have hm16 : m ≤ 16 := by omega
  clear hP hQ hK hl ho gl2 go2 hcase hxr hyr hxh hyh hL1e hL2e hL3e hL4e hq n1 n2 n3
  go_enter Tryd.func4, Tryd.ntmps4
  go_upto_region 5 with (first
    | ((with_reducible refine hAl.out.mono ?_); rintro e w1 ⟨rfl, hb1⟩)
    | ((with_reducible refine (hG1.out _ (HP.out.below hb1)).mono ?_); rintro e v2 ⟨rfl, hv⟩; subst hv)
    | ((with_reducible refine (hG2.out _ (HQ.out.below hb1)).mono ?_); rintro e v3 ⟨rfl, hv⟩; subst hv))
  clear hAl hG1 hG2
  go_upto_region 6 with (first
    | ((with_reducible refine (hR1.out _ (HP.out.below hb1) (HK.out.below hb1)).mono ?_); rintro e w2 ⟨rfl, hb2⟩)
    | ((with_reducible refine at_alloc (d := some 7) 23 ?_); refine wpList_al rfl 23 rfl zeroD (zeroD_run _) ?_; intro w3 hB3 hb3 hy; clear hy)
    | ((with_reducible refine at_store 23 ?_); refine wpList_str rfl 23 _ _ rfl w2.heap.size L1.toArray rfl rfl _ zeroD hB3 (by simpa using z1) zeroD_size (by simpa using o1.out) ?_; intro w4 hB4 hg4 hy; clear hy))
  have q24 : Below w2.heap.size w2 w4 := hb3.grown hg4 hb3.size (by intro k e; cases e; exact Nat.le_refl _)
  have Y := hid (below_chain hb1 (below_chain hb2 q24))
  have X1 := hid hB4
  clear hB3 hb3 hg4 hB4 hb1 hb2 q24 hR1
  go_upto_region 7 with (first
    | ((with_reducible refine (hR2.out _ (HQ.out.below Y.out) (HK.out.below Y.out)).mono ?_); rintro e w5 ⟨rfl, hb5⟩)
    | ((with_reducible refine at_alloc (d := some 9) 23 ?_); refine wpList_al rfl 23 rfl zeroD (zeroD_run _) ?_; intro w6 hB6 hb6 hy; clear hy)
    | ((with_reducible refine at_store 23 ?_); refine wpList_str rfl 23 _ _ rfl w5.heap.size L2.toArray rfl rfl _ zeroD hB6 (by simpa using z2) zeroD_size (by simpa using o2.out) ?_; intro w7 hB7 hg7 hy; clear hy))
  have q57 : Below w5.heap.size w5 w7 := hb6.grown hg7 hb6.size (by intro k e; cases e; exact Nat.le_refl _)
  have q47 := below_chain hb5 q57
  have X1 := hid (X1.out.belowS q47)
  have Y := hid (below_chain Y.out q47)
  have X2 := hid hB7
  clear hB6 hb6 hg7 hB7 hb5 q57 q47 hR2
  have hRX := hid ((HX.out.below Y.out).alloc (.cells #[] 24))
  have hRY := hid (HY.out.below Y.out)
  have hXY := hid ((HXh.out.below Y.out).app (HYh.out.below Y.out))
  have hKy := hid (HK.out.below Y.out)
  go_upto_region 8 with (first
    | (at_builtin; refine wpList_app _ rfl _ _ _ rfl w7.heap.size 24 i0' _ 1 24 Tryd.underlying27 hi0 hz0 hz1 hz2 rfl (by omega) _ 0 0 [] rfl (Go.Proofs.YtheljogmnalbmaaDoor.Own.nil _ _ _ _ _) P 8 pc 0 xs rfl hRX.out hx1.out (by simp only [maxLen]; omega) (by omega) (by simp) ?_; intro D8 c8 w8 ho8 hg8 ht8; have hO8 := hid (show Go.Proofs.YtheljogmnalbmaaDoor.Own w8 w7.heap.size 24 1 D8 8 c8 xs by simpa using ho8); have hb8 : Below w7.heap.size w7 w8 := below_al (below_of_grown hg8 (Nat.le_refl _) (fun k e => by cases e)); have hB8 := hid hb8; clear ho8 hg8 ht8 hb8)
    | (at_builtin; refine wpList_app _ rfl _ _ _ rfl w7.heap.size 24 i0' _ 1 24 Tryd.underlying27 hi0 hz0 hz1 hz2 rfl (by omega) D8 8 c8 xs rfl hO8.out Q m mc 0 ys rfl (hRY.out.below hB8.out) hy1.out (by simp only [maxLen]; omega) (by omega) hB8.out.size ?_; intro D9 c9 w9 ho9 hg9 ht9; have hb9 : Below w7.heap.size w7 w9 := hO8.out.grows hg9 hB8.out hB8.out.size; have hB9 := hid hb9; have hO9 := hid ho9; have hPt := hid (parts_of_heads ho9 (hXY.out.below hb9)); clear ho9 hg9 ht9 hb9)
    | ((with_reducible refine (hR3.out _ _ _ hPt.out hO9.out.cap.1 (hKy.out.below hB9.out)).mono ?_); rintro e wa ⟨rfl, hba⟩)
    | ((with_reducible refine at_alloc (d := some 11) 23 ?_); refine wpList_al rfl 23 rfl zeroD (zeroD_run _) ?_; intro wb hBb hbb hy; clear hy)
    | ((with_reducible refine at_store 23 ?_); refine wpList_str rfl 23 _ _ rfl wa.heap.size L3.toArray rfl rfl _ zeroD hBb (by simpa using z3) zeroD_size (by simpa using o3.out) ?_; intro wc hBc hgc hy; clear hy))
  have qac : Below wa.heap.size wa wc := hbb.grown hgc hbb.size (by intro k e; cases e; exact Nat.le_refl _)
  have q7c := below_chain hB9.out (below_chain hba qac)
  have X1 := hid (X1.out.belowS q7c)
  have X2 := hid (X2.out.belowS q7c)
  have X3 := hid hBc
  have Y := hid (below_chain Y.out q7c)
  have KC := hid (HK.out.below Y.out)
  clear hBb hbb hgc hBc hba qac q7c hR3 hPt hO9 hB9 hO8 hB8 hRX hRY hXY hKy HX HY HXh HYh hx1 hy1 hi0 hz0 hz1 hz2 o1 o2 o3 z1 z2 z3
  rcases hCase.out with ⟨f1, f2, f3, f4⟩ | ⟨f1, f2, f3⟩ | ⟨f1, f3⟩
  · subst f1 f2 f3
    have hq : q = true := by rw [← hQq.out, decide_eq_true f4]
    subst hq
    clear f4 hCase hQq
    go_wp2_with fail
    have Y := hid (below_drew1 Y.out)
    have X1 := hid X1.out.drew
    have X2 := hid X2.out.drew
    have X3 := hid X3.out.drew
    have KC := hid (HK.out.below Y.out)
    have hr0 : wc.drew.rangeAt w2.heap.size 0 L1 ∧ wc.drew.rangeAt w5.heap.size 0 L2 ∧ wc.drew.rangeAt wa.heap.size 0 L3 := ⟨by have := X1.out.range; simpa using this, by have := X2.out.range; simpa using this, by have := X3.out.range; simpa using this⟩
    refine wp_region_held_drew (S := (fun w' => w'.rangeAt w2.heap.size 0 L1 ∧ w'.rangeAt w5.heap.size 0 L2 ∧ w'.rangeAt wa.heap.size 0 L3)) (by kernel_rfl) hr0 (fun hHeld => ?_)
    refine reg_take (v := ?_) 0 rfl (by kernel_rfl) (by kernel_rfl) (by kernel_rfl) (fun _ _ _ h => h) (Or.inl ⟨by rfl, ?_⟩) (by assumption) ?_; rotate_left; (intro w hSw; (try dsimp only at hSw); go_simp); (try with_reducible rfl); (try simp only [Act.put, List.setIfInBounds_toArray, List.set_cons_zero, List.set_cons_succ])
    refine reg_take (v := ?_) 1 rfl (by kernel_rfl) (by kernel_rfl) (by kernel_rfl) (fun _ _ _ h => h) (Or.inl ⟨by rfl, ?_⟩) (by assumption) ?_; rotate_left; (intro w hSw; (try dsimp only at hSw); go_simp); (try with_reducible rfl); (try simp only [Act.put, List.setIfInBounds_toArray, List.set_cons_zero, List.set_cons_succ])
    refine reg_take (v := ?_) 2 rfl (by kernel_rfl) (by kernel_rfl) (by kernel_rfl) (fun _ _ _ h => h) (Or.inl ⟨by rfl, ?_⟩) (by assumption) ?_; rotate_left; (intro w hSw; (try dsimp only at hSw); go_simp); (try with_reducible rfl); (try simp only [Act.put, List.setIfInBounds_toArray, List.set_cons_zero, List.set_cons_succ])
    refine reg_take (v := ?_) 3 rfl (by kernel_rfl) (by kernel_rfl) (by kernel_rfl) (fun _ _ _ h => h) (Or.inl ⟨by rfl, ?_⟩) (by assumption) ?_; rotate_left; (intro w hSw; (try dsimp only at hSw); go_simp); (try with_reducible rfl); (try simp only [Act.put, List.setIfInBounds_toArray, List.set_cons_zero, List.set_cons_succ])
    refine reg_take (v := ?_) 4 rfl (by kernel_rfl) (by kernel_rfl) (by kernel_rfl) (fun _ _ _ h => h) (Or.inl ⟨by rfl, ?_⟩) (by assumption) ?_; rotate_left; (intro w hSw; (try dsimp only at hSw); go_simp); (try with_reducible rfl); (try simp only [Act.put, List.setIfInBounds_toArray, List.set_cons_zero, List.set_cons_succ])
    refine reg_take (v := ?_) 5 rfl (by kernel_rfl) (by kernel_rfl) (by kernel_rfl) (fun _ _ _ h => h) (Or.inl ⟨by rfl, ?_⟩) (by assumption) ?_; rotate_left; (intro w hSw; (try dsimp only at hSw); go_simp); (try with_reducible rfl); (try simp only [Act.put, List.setIfInBounds_toArray, List.set_cons_zero, List.set_cons_succ])
    refine reg_take 6 rfl (by kernel_rfl) (by kernel_rfl) (by kernel_rfl) (fun _ _ _ h => h) (yieldsIf_load_mid (by rfl) _ _ rfl _ _ rfl _ _ (by intro w hSw; (try dsimp only at hSw); go_split_ands; assumption) (by assumption) (by rfl) (by assumption)) (by assumption) ?_; (try simp only [Act.put, List.setIfInBounds_toArray, List.set_cons_zero, List.set_cons_succ])
    refine reg_take 7 rfl (by kernel_rfl) (by kernel_rfl) (by kernel_rfl) (fun _ _ _ h => h) (yieldsIf_load_mid (by rfl) _ _ rfl _ _ rfl _ _ (by intro w hSw; (try dsimp only at hSw); go_split_ands; assumption) (by assumption) (by rfl) (by assumption)) (by assumption) ?_; (try simp only [Act.put, List.setIfInBounds_toArray, List.set_cons_zero, List.set_cons_succ])
    refine reg_take 8 rfl (by kernel_rfl) (by kernel_rfl) (by kernel_rfl) (fun _ _ _ h => h) (yieldsIf_load_mid (by rfl) _ _ rfl _ _ rfl _ _ (by intro w hSw; (try dsimp only at hSw); go_split_ands; assumption) (by assumption) (by rfl) (by assumption)) (by assumption) ?_; (try simp only [Act.put, List.setIfInBounds_toArray, List.set_cons_zero, List.set_cons_succ])
    refine reg_only 9 rfl (by kernel_rfl) (fun K hK => ?_); go_simp; refine (hF.out _ KC.out).mono ?_; rintro e' u1 ⟨rfl, hbu⟩; have Y := hid (below_chain Y.out hbu); have X1 := hid (X1.out.belowS hbu); have X2 := hid (X2.out.belowS hbu); have X3 := hid (X3.out.belowS hbu); refine hK.out _ _ ?_ (fun hHeld => ?_); (exact ⟨by have := X1.out.range; simpa using this, by have := X2.out.range; simpa using this, by have := X3.out.range; simpa using this⟩); clear hK K; (try simp only [Act.put, List.setIfInBounds_toArray, List.set_cons_zero, List.set_cons_succ])
    refine reg_take (v := ?_) 10 rfl (by kernel_rfl) (by kernel_rfl) (by kernel_rfl) (fun _ _ _ h => h) (Or.inl ⟨by rfl, ?_⟩) (by assumption) ?_; rotate_left; (intro w hSw; (try dsimp only at hSw); go_simp); (try with_reducible rfl); (try simp only [Act.put, List.setIfInBounds_toArray, List.set_cons_zero, List.set_cons_succ])
    refine reg_take (v := ?_) 11 rfl (by kernel_rfl) (by kernel_rfl) (by kernel_rfl) (fun _ _ _ h => h) (Or.inl ⟨by rfl, ?_⟩) (by assumption) ?_; rotate_left; (intro w hSw; (try dsimp only at hSw); go_simp); (try with_reducible rfl); (try simp only [Act.put, List.setIfInBounds_toArray, List.set_cons_zero, List.set_cons_succ])
    refine reg_take (v := ?_) 12 rfl (by kernel_rfl) (by kernel_rfl) (by kernel_rfl) (fun _ _ _ h => h) (Or.inl ⟨by rfl, ?_⟩) (by assumption) ?_; rotate_left; (intro w hSw; (try dsimp only at hSw); go_simp); (try with_reducible rfl); (try simp only [Act.put, List.setIfInBounds_toArray, List.set_cons_zero, List.set_cons_succ])
    refine wpAnyH_done (by kernel_rfl) ?_ _
    go_wp2
    go_ret
    exact ⟨by simp, Y.out⟩
  · subst f1 f2 f3
    clear hCase hQq
    go_wp2
    go_ret
    exact ⟨rfl, Y.out⟩
  · subst f1 f3
    clear hCase hQq
    go_wp2
    go_ret
    exact ⟨rfl, Y.out⟩

set_option maxRecDepth 100000 in
set_option maxHeartbeats 8000000 in
theorem join16_any (P Q : Option Addr) (pc m mc : Nat) (l o : List (List UInt8)) (w : World) (hP : Parts w P 16 l) (hQ : Parts w Q m o) (hpc : 16 ≤ pc) (hmc : m ≤ mc) (hK : KOk w) (hl : greatB 16 l = false) (ho : greatB 16 o = false) :
    Calls Tryd.prog 4 #[.slice P 16 pc, .slice Q m mc] w fun e w' => e = .returned (.bool true) ∧ Below w.heap.size w w' := by
  have HP := hid hP
  have HQ := hid hQ
  have HK := hid hK
  have hAl := hid (alive_any w hK)
  have hG1 := hid (fun W (h : Parts W P 16 l) => great16 P 16 pc l W h _ rfl)
  have hG2 := hid (fun W (h : Parts W Q m o) => great16 Q m mc o W h _ rfl)
  rw [hl] at hG1
  rw [ho] at hG2
  obtain ⟨gl1, gl2⟩ := greatB_parts hl
  obtain ⟨go1, go2⟩ := greatB_parts ho
  rw [hP.1] at gl1
  rw [hQ.1] at go1
  by_cases hm0 : m = 0
  · subst hm0
    clear hP hQ hK hl ho gl2 go2
    go_enter Tryd.func4, Tryd.ntmps4
    go_wp2_with (first
      | ((with_reducible refine hAl.out.mono ?_); rintro e w1 ⟨rfl, hb1⟩)
      | ((with_reducible refine (hG1.out _ (HP.out.below hb1)).mono ?_); rintro e w2 ⟨rfl, hv⟩; subst hv)
      | ((with_reducible refine (hG2.out _ (HQ.out.below hb1)).mono ?_); rintro e w3 ⟨rfl, hv⟩; subst hv))
    go_ret
    exact ⟨rfl, hb1⟩
  have i0 : ((m : Int) == 0) = false := by simp; omega
  have j0 : ¬ (m : Int) = 0 := by omega
  by_cases hmv : (m : Int) > 16
  · clear hP hQ hK hl ho gl2 go2
    go_enter Tryd.func4, Tryd.ntmps4
    go_wp2_with (first
      | ((with_reducible refine hAl.out.mono ?_); rintro e w1 ⟨rfl, hb1⟩)
      | ((with_reducible refine (hG1.out _ (HP.out.below hb1)).mono ?_); rintro e w2 ⟨rfl, hv⟩; subst hv)
      | ((with_reducible refine (hG2.out _ (HQ.out.below hb1)).mono ?_); rintro e w3 ⟨rfl, hv⟩; subst hv))
    go_ret
    exact ⟨rfl, hb1⟩
  have hcase := join_cases (k := 4) (l := l) (o := o) (by decide) hP.1 (by rw [hQ.1]; omega) (by rw [hQ.1]; omega)
  have hR1 := hid (fun W (h : Parts W P 16 l) (k : KOk W) => root_v P 16 pc l W h hpc k)
  have hR2 := hid (fun W (h : Parts W Q m o) (k : KOk W) => root_v Q m mc o W h hmc k)
  have hR3 := hid (fun W D c (h : Parts W D (16 + m) (l ++ o)) (h2 : 16 + m ≤ c) (k : KOk W) => root_v D (16 + m) c (l ++ o) W h h2 k)
  have n1 := rootE_len l
  have n2 := rootE_len o
  have n3 := rootE_len (l ++ o)
  have hF := hid (fun W (k : KOk W) => forkD_any _ _ n1 n2 W k)
  unfold GivesD at hF
  unfold GivesVX at hR1 hR2 hR3
  generalize rootE l = E1 at *
  generalize rootE o = E2 at *
  generalize rootE (l ++ o) = E3 at *
  obtain ⟨d1, e1⟩ := E1
  obtain ⟨d2, e2⟩ := E2
  obtain ⟨d3, e3⟩ := E3
  dsimp only at *
  have hCase := hid hcase
  have hE := run_eq_dig _ _ n3 (digOf_len 8 [d1, d2])
  have z1 := digZ _ n1
  have z2 := digZ _ n2
  have z3 := digZ _ n3
  have hL1 : (Tryd.prog.info? 23).map (·.size) = some (d1.map bv).length := by rw [digS _ n1, List.size_toArray]
  have hL2 : (Tryd.prog.info? 23).map (·.size) = some (d2.map bv).length := by rw [digS _ n2, List.size_toArray]
  have hL3 : (Tryd.prog.info? 23).map (·.size) = some (d3.map bv).length := by rw [digS _ n3, List.size_toArray]
  have o1 := hid (oneBv' d1)
  have o2 := hid (oneBv' d2)
  have o3 := hid (oneBv' d3)
  have hu := Tryd.underlying23
  obtain ⟨L1, hL1e⟩ : ∃ L, d1.map bv = L := ⟨_, rfl⟩
  obtain ⟨L2, hL2e⟩ : ∃ L, d2.map bv = L := ⟨_, rfl⟩
  obtain ⟨L3, hL3e⟩ : ∃ L, d3.map bv = L := ⟨_, rfl⟩
  obtain ⟨L4, hL4e⟩ : ∃ L, (digOf 8 [d1, d2]).map bv = L := ⟨_, rfl⟩
  rw [hL1e] at hL1 o1 z1 hR1 hF
  rw [hL2e] at hL2 o2 z2 hR2 hF
  rw [hL3e] at hL3 o3 z3 hR3 hE
  rw [hL4e] at hE hF
  obtain ⟨q, hq⟩ : ∃ q, decide (d3 = digOf 8 [d1, d2]) = q := ⟨_, rfl⟩
  rw [hq] at hE
  have hQq := hid hq
  obtain ⟨xs, hxr, hxh⟩ := parts_heads hP
  obtain ⟨ys, hyr, hyh⟩ := parts_heads hQ
  have HX := hid hxr
  have HY := hid hyr
  have HXh := hid hxh
  have HYh := hid hyh
  have hx1 := hid hxh.one
  have hy1 := hid hyh.one
  obtain ⟨i0', hi0, hz0, hz1, hz2⟩ := info_parts slice_info
  have hm16 : m ≤ 16 := by omega
  clear hP hQ hK hl ho gl2 go2 hcase hxr hyr hxh hyh hL1e hL2e hL3e hL4e hq n1 n2 n3
  go_enter Tryd.func4, Tryd.ntmps4
  go_upto_region 5 with (first
    | ((with_reducible refine hAl.out.mono ?_); rintro e w1 ⟨rfl, hb1⟩)
    | ((with_reducible refine (hG1.out _ (HP.out.below hb1)).mono ?_); rintro e v2 ⟨rfl, hv⟩; subst hv)
    | ((with_reducible refine (hG2.out _ (HQ.out.below hb1)).mono ?_); rintro e v3 ⟨rfl, hv⟩; subst hv))
  clear hAl hG1 hG2
  go_upto_region 6 with (first
    | ((with_reducible refine (hR1.out _ (HP.out.below hb1) (HK.out.below hb1)).mono ?_); rintro e w2 ⟨rfl, hb2⟩)
    | ((with_reducible refine at_alloc (d := some 7) 23 ?_); refine wpList_al rfl 23 rfl zeroD (zeroD_run _) ?_; intro w3 hB3 hb3 hy; clear hy)
    | ((with_reducible refine at_store 23 ?_); refine wpList_str rfl 23 _ _ rfl w2.heap.size L1.toArray rfl rfl _ zeroD hB3 (by simpa using z1) zeroD_size (by simpa using o1.out) ?_; intro w4 hB4 hg4 hy; clear hy))
  have q24 : Below w2.heap.size w2 w4 := hb3.grown hg4 hb3.size (by intro k e; cases e; exact Nat.le_refl _)
  have Y := hid (below_chain hb1 (below_chain hb2 q24))
  have X1 := hid hB4
  clear hB3 hb3 hg4 hB4 hb1 hb2 q24 hR1
  go_upto_region 7 with (first
    | ((with_reducible refine (hR2.out _ (HQ.out.below Y.out) (HK.out.below Y.out)).mono ?_); rintro e w5 ⟨rfl, hb5⟩)
    | ((with_reducible refine at_alloc (d := some 9) 23 ?_); refine wpList_al rfl 23 rfl zeroD (zeroD_run _) ?_; intro w6 hB6 hb6 hy; clear hy)
    | ((with_reducible refine at_store 23 ?_); refine wpList_str rfl 23 _ _ rfl w5.heap.size L2.toArray rfl rfl _ zeroD hB6 (by simpa using z2) zeroD_size (by simpa using o2.out) ?_; intro w7 hB7 hg7 hy; clear hy))
  have q57 : Below w5.heap.size w5 w7 := hb6.grown hg7 hb6.size (by intro k e; cases e; exact Nat.le_refl _)
  have q47 := below_chain hb5 q57
  have X1 := hid (X1.out.belowS q47)
  have Y := hid (below_chain Y.out q47)
  have X2 := hid hB7
  clear hB6 hb6 hg7 hB7 hb5 q57 q47 hR2
  have hRX := hid ((HX.out.below Y.out).alloc (.cells #[] 24))
  have hRY := hid (HY.out.below Y.out)
  have hXY := hid ((HXh.out.below Y.out).app (HYh.out.below Y.out))
  have hKy := hid (HK.out.below Y.out)
  go_upto_region 8 with (first
    | (at_builtin; refine wpList_app _ rfl _ _ _ rfl w7.heap.size 24 i0' _ 1 24 Tryd.underlying27 hi0 hz0 hz1 hz2 rfl (by omega) _ 0 0 [] rfl (Go.Proofs.YtheljogmnalbmaaDoor.Own.nil _ _ _ _ _) P 16 pc 0 xs rfl hRX.out hx1.out (by simp only [maxLen]; omega) (by omega) (by simp) ?_; intro D8 c8 w8 ho8 hg8 ht8; have hO8 := hid (show Go.Proofs.YtheljogmnalbmaaDoor.Own w8 w7.heap.size 24 1 D8 16 c8 xs by simpa using ho8); have hb8 : Below w7.heap.size w7 w8 := below_al (below_of_grown hg8 (Nat.le_refl _) (fun k e => by cases e)); have hB8 := hid hb8; clear ho8 hg8 ht8 hb8)
    | (at_builtin; refine wpList_app _ rfl _ _ _ rfl w7.heap.size 24 i0' _ 1 24 Tryd.underlying27 hi0 hz0 hz1 hz2 rfl (by omega) D8 16 c8 xs rfl hO8.out Q m mc 0 ys rfl (hRY.out.below hB8.out) hy1.out (by simp only [maxLen]; omega) (by omega) hB8.out.size ?_; intro D9 c9 w9 ho9 hg9 ht9; have hb9 : Below w7.heap.size w7 w9 := hO8.out.grows hg9 hB8.out hB8.out.size; have hB9 := hid hb9; have hO9 := hid ho9; have hPt := hid (parts_of_heads ho9 (hXY.out.below hb9)); clear ho9 hg9 ht9 hb9)
    | ((with_reducible refine (hR3.out _ _ _ hPt.out hO9.out.cap.1 (hKy.out.below hB9.out)).mono ?_); rintro e wa ⟨rfl, hba⟩)
    | ((with_reducible refine at_alloc (d := some 11) 23 ?_); refine wpList_al rfl 23 rfl zeroD (zeroD_run _) ?_; intro wb hBb hbb hy; clear hy)
    | ((with_reducible refine at_store 23 ?_); refine wpList_str rfl 23 _ _ rfl wa.heap.size L3.toArray rfl rfl _ zeroD hBb (by simpa using z3) zeroD_size (by simpa using o3.out) ?_; intro wc hBc hgc hy; clear hy))
  have qac : Below wa.heap.size wa wc := hbb.grown hgc hbb.size (by intro k e; cases e; exact Nat.le_refl _)
  have q7c := below_chain hB9.out (below_chain hba qac)
  have X1 := hid (X1.out.belowS q7c)
  have X2 := hid (X2.out.belowS q7c)
  have X3 := hid hBc
  have Y := hid (below_chain Y.out q7c)
  have KC := hid (HK.out.below Y.out)
  clear hBb hbb hgc hBc hba qac q7c hR3 hPt hO9 hB9 hO8 hB8 hRX hRY hXY hKy HX HY HXh HYh hx1 hy1 hi0 hz0 hz1 hz2 o1 o2 o3 z1 z2 z3
  rcases hCase.out with ⟨f1, f2, f3, f4⟩ | ⟨f1, f2, f3⟩ | ⟨f1, f3⟩
  · subst f1 f2 f3
    have hq : q = true := by rw [← hQq.out, decide_eq_true f4]
    subst hq
    clear f4 hCase hQq
    go_wp2_with fail
    have Y := hid (below_drew1 Y.out)
    have X1 := hid X1.out.drew
    have X2 := hid X2.out.drew
    have X3 := hid X3.out.drew
    have KC := hid (HK.out.below Y.out)
    have hr0 : wc.drew.rangeAt w2.heap.size 0 L1 ∧ wc.drew.rangeAt w5.heap.size 0 L2 ∧ wc.drew.rangeAt wa.heap.size 0 L3 := ⟨by have := X1.out.range; simpa using this, by have := X2.out.range; simpa using this, by have := X3.out.range; simpa using this⟩
    refine wp_region_held_drew (S := (fun w' => w'.rangeAt w2.heap.size 0 L1 ∧ w'.rangeAt w5.heap.size 0 L2 ∧ w'.rangeAt wa.heap.size 0 L3)) (by kernel_rfl) hr0 (fun hHeld => ?_)
    refine reg_take (v := ?_) 0 rfl (by kernel_rfl) (by kernel_rfl) (by kernel_rfl) (fun _ _ _ h => h) (Or.inl ⟨by rfl, ?_⟩) (by assumption) ?_; rotate_left; (intro w hSw; (try dsimp only at hSw); go_simp); (try with_reducible rfl); (try simp only [Act.put, List.setIfInBounds_toArray, List.set_cons_zero, List.set_cons_succ])
    refine reg_take (v := ?_) 1 rfl (by kernel_rfl) (by kernel_rfl) (by kernel_rfl) (fun _ _ _ h => h) (Or.inl ⟨by rfl, ?_⟩) (by assumption) ?_; rotate_left; (intro w hSw; (try dsimp only at hSw); go_simp); (try with_reducible rfl); (try simp only [Act.put, List.setIfInBounds_toArray, List.set_cons_zero, List.set_cons_succ])
    refine reg_take (v := ?_) 2 rfl (by kernel_rfl) (by kernel_rfl) (by kernel_rfl) (fun _ _ _ h => h) (Or.inl ⟨by rfl, ?_⟩) (by assumption) ?_; rotate_left; (intro w hSw; (try dsimp only at hSw); go_simp); (try with_reducible rfl); (try simp only [Act.put, List.setIfInBounds_toArray, List.set_cons_zero, List.set_cons_succ])
    refine reg_take (v := ?_) 3 rfl (by kernel_rfl) (by kernel_rfl) (by kernel_rfl) (fun _ _ _ h => h) (Or.inl ⟨by rfl, ?_⟩) (by assumption) ?_; rotate_left; (intro w hSw; (try dsimp only at hSw); go_simp); (try with_reducible rfl); (try simp only [Act.put, List.setIfInBounds_toArray, List.set_cons_zero, List.set_cons_succ])
    refine reg_take (v := ?_) 4 rfl (by kernel_rfl) (by kernel_rfl) (by kernel_rfl) (fun _ _ _ h => h) (Or.inl ⟨by rfl, ?_⟩) (by assumption) ?_; rotate_left; (intro w hSw; (try dsimp only at hSw); go_simp); (try with_reducible rfl); (try simp only [Act.put, List.setIfInBounds_toArray, List.set_cons_zero, List.set_cons_succ])
    refine reg_take (v := ?_) 5 rfl (by kernel_rfl) (by kernel_rfl) (by kernel_rfl) (fun _ _ _ h => h) (Or.inl ⟨by rfl, ?_⟩) (by assumption) ?_; rotate_left; (intro w hSw; (try dsimp only at hSw); go_simp); (try with_reducible rfl); (try simp only [Act.put, List.setIfInBounds_toArray, List.set_cons_zero, List.set_cons_succ])
    refine reg_take 6 rfl (by kernel_rfl) (by kernel_rfl) (by kernel_rfl) (fun _ _ _ h => h) (yieldsIf_load_mid (by rfl) _ _ rfl _ _ rfl _ _ (by intro w hSw; (try dsimp only at hSw); go_split_ands; assumption) (by assumption) (by rfl) (by assumption)) (by assumption) ?_; (try simp only [Act.put, List.setIfInBounds_toArray, List.set_cons_zero, List.set_cons_succ])
    refine reg_take 7 rfl (by kernel_rfl) (by kernel_rfl) (by kernel_rfl) (fun _ _ _ h => h) (yieldsIf_load_mid (by rfl) _ _ rfl _ _ rfl _ _ (by intro w hSw; (try dsimp only at hSw); go_split_ands; assumption) (by assumption) (by rfl) (by assumption)) (by assumption) ?_; (try simp only [Act.put, List.setIfInBounds_toArray, List.set_cons_zero, List.set_cons_succ])
    refine reg_take 8 rfl (by kernel_rfl) (by kernel_rfl) (by kernel_rfl) (fun _ _ _ h => h) (yieldsIf_load_mid (by rfl) _ _ rfl _ _ rfl _ _ (by intro w hSw; (try dsimp only at hSw); go_split_ands; assumption) (by assumption) (by rfl) (by assumption)) (by assumption) ?_; (try simp only [Act.put, List.setIfInBounds_toArray, List.set_cons_zero, List.set_cons_succ])
    refine reg_only 9 rfl (by kernel_rfl) (fun K hK => ?_); go_simp; refine (hF.out _ KC.out).mono ?_; rintro e' u1 ⟨rfl, hbu⟩; have Y := hid (below_chain Y.out hbu); have X1 := hid (X1.out.belowS hbu); have X2 := hid (X2.out.belowS hbu); have X3 := hid (X3.out.belowS hbu); refine hK.out _ _ ?_ (fun hHeld => ?_); (exact ⟨by have := X1.out.range; simpa using this, by have := X2.out.range; simpa using this, by have := X3.out.range; simpa using this⟩); clear hK K; (try simp only [Act.put, List.setIfInBounds_toArray, List.set_cons_zero, List.set_cons_succ])
    refine reg_take (v := ?_) 10 rfl (by kernel_rfl) (by kernel_rfl) (by kernel_rfl) (fun _ _ _ h => h) (Or.inl ⟨by rfl, ?_⟩) (by assumption) ?_; rotate_left; (intro w hSw; (try dsimp only at hSw); go_simp); (try with_reducible rfl); (try simp only [Act.put, List.setIfInBounds_toArray, List.set_cons_zero, List.set_cons_succ])
    refine reg_take (v := ?_) 11 rfl (by kernel_rfl) (by kernel_rfl) (by kernel_rfl) (fun _ _ _ h => h) (Or.inl ⟨by rfl, ?_⟩) (by assumption) ?_; rotate_left; (intro w hSw; (try dsimp only at hSw); go_simp); (try with_reducible rfl); (try simp only [Act.put, List.setIfInBounds_toArray, List.set_cons_zero, List.set_cons_succ])
    refine reg_take (v := ?_) 12 rfl (by kernel_rfl) (by kernel_rfl) (by kernel_rfl) (fun _ _ _ h => h) (Or.inl ⟨by rfl, ?_⟩) (by assumption) ?_; rotate_left; (intro w hSw; (try dsimp only at hSw); go_simp); (try with_reducible rfl); (try simp only [Act.put, List.setIfInBounds_toArray, List.set_cons_zero, List.set_cons_succ])
    refine wpAnyH_done (by kernel_rfl) ?_ _
    go_wp2
    go_ret
    exact ⟨by simp, Y.out⟩
  · subst f1 f2 f3
    clear hCase hQq
    go_wp2
    go_ret
    exact ⟨rfl, Y.out⟩
  · subst f1 f3
    clear hCase hQq
    go_wp2
    go_ret
    exact ⟨rfl, Y.out⟩

theorem join_any (P Q : Option Addr) (np pc m mc : Nat) (l o : List (List UInt8)) (w : World) (hP : Parts w P np l) (hQ : Parts w Q m o) (hpc : np ≤ pc) (hmc : m ≤ mc) (hK : KOk w) :
    Calls Tryd.prog 4 #[.slice P np pc, .slice Q m mc] w fun e w' => e = .returned (.bool true) ∧ Below w.heap.size w w' := by
  by_cases hl : greatB 16 l = true
  · exact join_great P Q np pc m mc l o w hP hQ hK (.inl hl)
  by_cases ho : greatB 16 o = true
  · exact join_great P Q np pc m mc l o w hP hQ hK (.inr ho)
  have hl' : greatB 16 l = false := by simpa using hl
  have ho' : greatB 16 o = false := by simpa using ho
  by_cases h1 : np = 1
  · subst h1
    exact join1_any P Q pc m mc l o w hP hQ hpc hmc hK hl' ho'
  by_cases h2 : np = 2
  · subst h2
    exact join2_any P Q pc m mc l o w hP hQ hpc hmc hK hl' ho'
  by_cases h4 : np = 4
  · subst h4
    exact join4_any P Q pc m mc l o w hP hQ hpc hmc hK hl' ho'
  by_cases h8 : np = 8
  · subst h8
    exact join8_any P Q pc m mc l o w hP hQ hpc hmc hK hl' ho'
  by_cases h16 : np = 16
  · subst h16
    exact join16_any P Q pc m mc l o w hP hQ hpc hmc hK hl' ho'
  exact join_other P Q np pc m mc l o w hP hQ hK hl' ho' h1 h2 h4 h8 h16
namespace rowsJoin
theorem rowsJoin_law {W : World} (a0 : Option Addr) (n0 c0 : Nat) (l0 : List (List UInt8)) (w0 : Parts W a0 n0 l0 ∧ n0 ≤ c0) (a1 : Option Addr) (n1 c1 : Nat) (l1 : List (List UInt8)) (w1 : Parts W a1 n1 l1 ∧ n1 ≤ c1) (hK : KOk W) :
    Calls Tryd.prog 4 #[.slice a0 n0 c0, .slice a1 n1 c1] W fun e w' => e = .returned (.bool true) ∧ Below W.heap.size W w' :=
  join_any a0 a1 n0 c0 n1 c1 l0 l1 W w0.1 w1.1 w0.2 w1.2 hK
end rowsJoin
end Go.Proofs.YtheljogmnalbmaaDoor
