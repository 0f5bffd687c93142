/-
  Contracts of the reference's Of and Root, at any rows: they are rows.root's and rows.Root's answers. No condition.
-/
import Derived.Test.YtheljogmnalbmaaDoorRowQ
import Derived.Test.YtheljogmnalbmaaDoorRegT
namespace Go.Proofs.YtheljogmnalbmaaDoor
open Go.RowKit
set_option linter.unusedSimpArgs false
set_option linter.unusedVariables false

section
variable {P : Program} {Q : Exit → Act → World → Prop} {S : World → Prop} {md : Region.Mode}
end

section
variable {P : Program} {md : Region.Mode} {Q : Exit → Act → World → Prop} {S : World → Prop}
theorem reg_three {l r1 r2 r3 : List Oper} {oi oj ok : Oper} {fuel : Nat} {listed : Array Bool} {a : Act} {w : World} (i j k : Nat) (hi : l.drop i = oi :: r1) (hj : l.drop j = oj :: r2) (hk : l.drop k = ok :: r3) (hr : Region.ready md l.toArray listed = [i, j, k])
    (h : ∀ K' : Act → World → Prop, Shut (∀ a w, S w → (S w → wpAnyH P md l.toArray Q S fuel (listed.setIfInBounds i true) a w) → K' a w) → if Region.wanted oi (yielded l.toArray a.tmps) = true then Oper.wp P oi a w K' Q else K' (a.put oi.dst undef) w)
    (h2 : ∀ K' : Act → World → Prop, Shut (∀ a w, S w → (S w → wpAnyH P md l.toArray Q S fuel (listed.setIfInBounds j true) a w) → K' a w) → if Region.wanted oj (yielded l.toArray a.tmps) = true then Oper.wp P oj a w K' Q else K' (a.put oj.dst undef) w)
    (h3 : ∀ K' : Act → World → Prop, Shut (∀ a w, S w → (S w → wpAnyH P md l.toArray Q S fuel (listed.setIfInBounds k true) a w) → K' a w) → if Region.wanted ok (yielded l.toArray a.tmps) = true then Oper.wp P ok a w K' Q else K' (a.put ok.dst undef) w) :
    wpAnyH P md l.toArray Q S (fuel + 1) listed a w :=
  wpAnyH_ready hr (by simp) (AllReadyH.cons (op_at hi) h (AllReadyH.cons (op_at hj) h2 (AllReadyH.cons (op_at hk) h3 AllReadyH.nil)))
end
set_option maxRecDepth 100000 in
set_option maxHeartbeats 8000000 in
theorem ofR_two (b o np pc f : Nat) (pss : List (List UInt8)) (w : World) (hf : frontN np = f) (h2 : 2 ≤ np) (h512 : np ≤ 512) (hpc : np ≤ pc) (hP : Parts w (some ⟨b, o, none⟩) np pss) (dl dr : List UInt8) (hdl : dl.length = 32) (hdr : dr.length = 32)
    (hLr : ∀ W, Parts W (some ⟨b, o, none⟩) np pss → Calls Tryd.prog 29 #[.slice (some ⟨b, o, none⟩) f pc] W (GivesD W dl))
    (hRr : ∀ W, Parts W (some ⟨b, o, none⟩) np pss → Calls Tryd.prog 29 #[.slice (some ⟨b, o + f, none⟩) (np - f) (pc - f)] W (GivesD W dr)) :
    Calls Tryd.prog 29 #[.slice (some ⟨b, o, none⟩) np pc] w (GivesD w (digOf 8 [dl, dr])) := by
  have hfb := frontN_bounds h2
  rw [hf] at hfb
  obtain ⟨hf1, hf2, hf3⟩ := hfb
  have HP := hid hP
  have hL := hid hLr
  have hR := hid hRr
  have hFi := hid (fun W => first_any np h2 h512 W)
  rw [hf] at hFi
  have hO := hid (fun W A B (h1 : Rd W 0 1 A 32 (dl.map bv)) (h2 : Rd W 0 1 B 32 (dr.map bv)) => refTwoS_any A B 32 32 32 32 dl dr W h1 h2 (by omega) (by omega))
  have hlz := digZ _ hdl
  have hrz := digZ _ hdr
  have hlo := hid (oneBv' dl)
  have hro := hid (oneBv' dr)
  have hd8 := digOf_len 8 [dl, dr]
  have h8z := digZ _ hd8
  have h8S := digS _ hd8
  have h8o := hid (oneBv' (digOf 8 [dl, dr]))
  unfold GivesD at hL hR hO
  unfold GivesD
  generalize digOf 8 [dl, dr] = d8 at *
  have t1 : ¬ (np : Int) = 0 := by omega
  have t2 : ((np : Int) == 0) = false := by simpa using t1
  have t3 : ¬ (np : Int) = 1 := by omega
  have t4 : ((np : Int) == 1) = false := by simpa using t3
  have a1 : (f : Int) ≤ np := by omega
  have a2 : (f : Int) ≤ pc := by omega
  have a3 : (np : Int) ≤ pc := by omega
  have a4 : (np : Int) ≤ 1000 := by omega
  have a5 : (0 : Int) ≤ f := by omega
  have b1 : f ≤ np := by omega
  have hpf : ¬ pc = f := by omega
  have b2 : f ≤ pc := by omega
  have b3 : np ≤ 1000 := by omega
  have o0 : f * 1 = f := Nat.mul_one f
  clear hLr hRr hP hf
  go_enter Tryd.func29, Tryd.ntmps29
  go_upto_region 6 with (first
    | ((with_reducible refine at_alloc (d := some 2) 23 ?_); refine wpList_al rfl 23 rfl zeroD (zeroD_run _) ?_; intro w1 hB1 hb1 hy; clear hy)
    | ((with_reducible refine (hFi.out _).mono ?_); rintro e v1 ⟨rfl, hv⟩; subst hv))
  obtain ⟨cw, hcw⟩ : ∃ cw, v1.drew = cw := ⟨_, rfl⟩
  have X2 := hid (show Blk cw w.heap.size 23 zeroD from hcw ▸ hB1.drew)
  have Y := hid (show Below w.heap.size w cw from hcw ▸ below_drew1 hb1)
  clear hB1 hb1
  refine wp_region_held_drew (S := (fun _ => True)) (by kernel_rfl) trivial (fun hHeld => ?_)
  rw [hcw]
  refine reg_take (v := ?_) 0 rfl (by kernel_rfl) (by kernel_rfl) (by kernel_rfl) (fun _ _ _ h => h) (Or.inl ⟨by rfl, ?_⟩) (by assumption) ?_; rotate_left; (intro w hSw; (try dsimp only at hSw); go_simp); (try with_reducible rfl); (try simp only [Act.put, List.setIfInBounds_toArray, List.set_cons_zero, List.set_cons_succ])
  refine reg_take (v := ?_) 1 rfl (by kernel_rfl) (by kernel_rfl) (by kernel_rfl) (fun _ _ _ h => h) (Or.inl ⟨by rfl, ?_⟩) (by assumption) ?_; rotate_left; (intro w hSw; (try dsimp only at hSw); go_simp); (try with_reducible rfl); (try simp only [Act.put, List.setIfInBounds_toArray, List.set_cons_zero, List.set_cons_succ])
  refine reg_take (v := ?_) 2 rfl (by kernel_rfl) (by kernel_rfl) (by kernel_rfl) (fun _ _ _ h => h) (Or.inl ⟨by rfl, ?_⟩) (by assumption) ?_; rotate_left; (intro w hSw; (try dsimp only at hSw); go_simp); (try with_reducible rfl); (try simp only [Act.put, List.setIfInBounds_toArray, List.set_cons_zero, List.set_cons_succ])
  refine reg_take (v := ?_) 4 rfl (by kernel_rfl) (by kernel_rfl) (by kernel_rfl) (fun _ _ _ h => h) (Or.inl ⟨by rfl, ?_⟩) (by assumption) ?_; rotate_left; (intro w hSw; (try dsimp only at hSw); go_simp); (try with_reducible rfl); (try simp only [Act.put, List.setIfInBounds_toArray, List.set_cons_zero, List.set_cons_succ])
  refine reg_take (v := ?_) 5 rfl (by kernel_rfl) (by kernel_rfl) (by kernel_rfl) (fun _ _ _ h => h) (Or.inl ⟨by rfl, ?_⟩) (by assumption) ?_; rotate_left; (intro w hSw; (try dsimp only at hSw); go_simp); (try with_reducible rfl); (try simp only [Act.put, List.setIfInBounds_toArray, List.set_cons_zero, List.set_cons_succ])
  refine reg_take (v := ?_) 6 rfl (by kernel_rfl) (by kernel_rfl) (by kernel_rfl) (fun _ _ _ h => h) (Or.inl ⟨by rfl, ?_⟩) (by assumption) ?_; rotate_left; (intro w hSw; (try dsimp only at hSw); go_simp); (try with_reducible rfl); (try simp only [Act.put, List.setIfInBounds_toArray, List.set_cons_zero, List.set_cons_succ])
  refine reg_three 3 8 9 rfl rfl rfl (by kernel_rfl) (fun K hK => ?_) (fun K hK => ?_) (fun K hK => ?_)
  · go_simp; (with_reducible refine (hL.out _ (HP.out.below Y.out)).mono ?_); rintro e' u1 ⟨rfl, hbu1⟩; have X2 := hid (X2.out.belowS hbu1); have Y := hid (below_chain Y.out hbu1); clear hbu1; refine hK.out _ _ ?_ (fun hHeld => ?_); (trivial); clear hK K; (try simp only [Act.put, List.setIfInBounds_toArray, List.set_cons_zero, List.set_cons_succ])
    refine reg_three 7 8 9 rfl rfl rfl (by kernel_rfl) (fun K hK => ?_) (fun K hK => ?_) (fun K hK => ?_)
    · go_simp; (with_reducible refine (hR.out _ (HP.out.below Y.out)).mono ?_); rintro e' u2 ⟨rfl, hbu2⟩; have X2 := hid (X2.out.belowS hbu2); have Y := hid (below_chain Y.out hbu2); clear hbu2; refine hK.out _ _ ?_ (fun hHeld => ?_); (trivial); clear hK K; (try simp only [Act.put, List.setIfInBounds_toArray, List.set_cons_zero, List.set_cons_succ])
      refine reg_two 8 9 rfl rfl (by kernel_rfl) (fun K hK => ?_) (fun K hK => ?_)
      · refine step_al rfl 23 rfl zeroD (zeroD_run _) ?_; intro u3 hBu3 hbu3 hy; clear hy; obtain ⟨g8, hg8⟩ : ∃ g8, u2.heap.size = g8 := ⟨_, rfl⟩; have M8 := hid (show w.heap.size < g8 by rw [← hg8]; exact X2.out.lt); rw [hg8] at hBu3 ⊢; have X2 := hid (X2.out.belowS hbu3); have Y := hid (below_chain Y.out hbu3); have X8 := hid hBu3; clear hBu3 hbu3 hg8; refine hK.out _ _ ?_ (fun hHeld => ?_); (trivial); clear hK K; (try simp only [Act.put, List.setIfInBounds_toArray, List.set_cons_zero, List.set_cons_succ])
        refine reg_only 9 rfl (by kernel_rfl) (fun K hK => ?_)
        refine step_al rfl 23 rfl zeroD (zeroD_run _) ?_; intro u4 hBu4 hbu4 hy; clear hy; obtain ⟨g9, hg9⟩ : ∃ g9, u3.heap.size = g9 := ⟨_, rfl⟩; have M9 := hid (show w.heap.size < g9 by rw [← hg9]; exact X2.out.lt); have N89 := hid (show g8 ≠ g9 by rw [← hg9]; exact Nat.ne_of_lt X8.out.lt); have N2 := hid (show w.heap.size < g8 ∧ w.heap.size < g9 from ⟨M8.out, M9.out⟩); rw [hg9] at hBu4 ⊢; have X2 := hid (X2.out.belowS hbu4); have Y := hid (below_chain Y.out hbu4); have X8 := hid (X8.out.belowS hbu4); have X9 := hid hBu4; clear hBu4 hbu4 hg9; refine hK.out _ _ ?_ (fun hHeld => ?_); (trivial); clear hK K; (try simp only [Act.put, List.setIfInBounds_toArray, List.set_cons_zero, List.set_cons_succ])
        refine reg_only 10 rfl (by kernel_rfl) (fun K hK => ?_); refine step_str rfl 23 _ _ rfl g8 _ rfl rfl _ zeroD X8.out hlz zeroD_size hlo.out ?_; intro s1 hS1 hgs1 hy; clear hy; have X8 := hid hS1; have X9 := hid (X9.out.grown hgs1 (fun e => by have := Option.some.inj e; have := N89.out; omega)); have X2 := hid (X2.out.grown hgs1 (fun e => by have := Option.some.inj e; have := N2.out; omega)); have Y := hid (below_set Y.out hgs1 (by have := N2.out; omega)); clear hS1 hgs1; refine hK.out _ _ ?_ (fun hHeld => ?_); (trivial); clear hK K; (try simp only [Act.put, List.setIfInBounds_toArray, List.set_cons_zero, List.set_cons_succ])
        refine reg_only 11 rfl (by kernel_rfl) (fun K hK => ?_); refine step_str rfl 23 _ _ rfl g9 _ rfl rfl _ zeroD X9.out hrz zeroD_size hro.out ?_; intro s2 hS2 hgs2 hy; clear hy; have X9 := hid hS2; have X8 := hid (X8.out.grown hgs2 (fun e => by have := Option.some.inj e; have := N89.out; omega)); have X2 := hid (X2.out.grown hgs2 (fun e => by have := Option.some.inj e; have := N2.out; omega)); have Y := hid (below_set Y.out hgs2 (by have := N2.out; omega)); clear hS2 hgs2; refine hK.out _ _ ?_ (fun hHeld => ?_); (trivial); clear hK K; (try simp only [Act.put, List.setIfInBounds_toArray, List.set_cons_zero, List.set_cons_succ])
        refine wpAnyH_done (by kernel_rfl) ?_ _
        go_wp2_with fail
        have X2 := hid X2.out.drew
        have Y := hid (below_drew1 Y.out)
        have R8 := hid (X8.out.drew.rdD hdl)
        have R9 := hid (X9.out.drew.rdD hdr)
        refine wp_region_held_drew (S := (fun _ => True)) (by kernel_rfl) trivial (fun hHeld => ?_)
        refine reg_take (v := ?_) 0 rfl (by kernel_rfl) (by kernel_rfl) (by kernel_rfl) (fun _ _ _ h => h) (Or.inl ⟨by rfl, ?_⟩) (by assumption) ?_; rotate_left; (intro w hSw; (try dsimp only at hSw); go_simp); (try with_reducible rfl); (try simp only [Act.put, List.setIfInBounds_toArray, List.set_cons_zero, List.set_cons_succ])
        refine reg_take (v := ?_) 1 rfl (by kernel_rfl) (by kernel_rfl) (by kernel_rfl) (fun _ _ _ h => h) (Or.inl ⟨by rfl, ?_⟩) (by assumption) ?_; rotate_left; (intro w hSw; (try dsimp only at hSw); go_simp); (try with_reducible rfl); (try simp only [Act.put, List.setIfInBounds_toArray, List.set_cons_zero, List.set_cons_succ])
        refine reg_only 2 rfl (by kernel_rfl) (fun K hK => ?_); go_simp; (with_reducible refine (hO.out _ _ _ R8.out R9.out).mono ?_); rintro e' w7 ⟨rfl, hb7⟩; have X2 := hid (X2.out.belowS hb7); have Y := hid (below_chain Y.out hb7); refine hK.out _ _ ?_ (fun hHeld => ?_); (trivial); clear hK K; (try simp only [Act.put, List.setIfInBounds_toArray, List.set_cons_zero, List.set_cons_succ])
        refine reg_only 3 rfl (by kernel_rfl) (fun K hK => ?_); refine step_str rfl 23 _ _ rfl w.heap.size _ rfl rfl _ _ X2.out h8z zeroD_size h8o.out ?_; intro wx hBx hgx hy; clear hy; refine hK.out _ _ ?_ (fun hHeld => ?_); (trivial); clear hK K; (try simp only [Act.put, List.setIfInBounds_toArray, List.set_cons_zero, List.set_cons_succ])
        refine wpAnyH_done (by kernel_rfl) ?_ _
        have hbf := below_set Y.out hgx (Nat.le_refl _)
        have hres := results_c (P := Tryd.prog) (fn := Tryd.f29) (p := 2) rfl
        go_wp2
        exact bodyPost_ret (hres _ _ w.heap.size _ _ rfl hBx Tryd.underlying23 rfl h8S) rfl ⟨rfl, hbf⟩
      · refine step_al rfl 23 rfl zeroD (zeroD_run _) ?_; intro u5 hBu5 hbu5 hy; clear hy; obtain ⟨g9, hg9⟩ : ∃ g9, u2.heap.size = g9 := ⟨_, rfl⟩; have M9 := hid (show w.heap.size < g9 by rw [← hg9]; exact X2.out.lt); rw [hg9] at hBu5 ⊢; have X2 := hid (X2.out.belowS hbu5); have Y := hid (below_chain Y.out hbu5); have X9 := hid hBu5; clear hBu5 hbu5 hg9; refine hK.out _ _ ?_ (fun hHeld => ?_); (trivial); clear hK K; (try simp only [Act.put, List.setIfInBounds_toArray, List.set_cons_zero, List.set_cons_succ])
        refine reg_only 8 rfl (by kernel_rfl) (fun K hK => ?_)
        refine step_al rfl 23 rfl zeroD (zeroD_run _) ?_; intro u6 hBu6 hbu6 hy; clear hy; obtain ⟨g8, hg8⟩ : ∃ g8, u5.heap.size = g8 := ⟨_, rfl⟩; have M8 := hid (show w.heap.size < g8 by rw [← hg8]; exact X2.out.lt); have N89 := hid (show g9 ≠ g8 by rw [← hg8]; exact Nat.ne_of_lt X9.out.lt); have N2 := hid (show w.heap.size < g8 ∧ w.heap.size < g9 from ⟨M8.out, M9.out⟩); rw [hg8] at hBu6 ⊢; have X2 := hid (X2.out.belowS hbu6); have Y := hid (below_chain Y.out hbu6); have X9 := hid (X9.out.belowS hbu6); have X8 := hid hBu6; clear hBu6 hbu6 hg8; refine hK.out _ _ ?_ (fun hHeld => ?_); (trivial); clear hK K; (try simp only [Act.put, List.setIfInBounds_toArray, List.set_cons_zero, List.set_cons_succ])
        refine reg_only 10 rfl (by kernel_rfl) (fun K hK => ?_); refine step_str rfl 23 _ _ rfl g8 _ rfl rfl _ zeroD X8.out hlz zeroD_size hlo.out ?_; intro s1 hS1 hgs1 hy; clear hy; have X8 := hid hS1; have X9 := hid (X9.out.grown hgs1 (fun e => by have := Option.some.inj e; have := N89.out; omega)); have X2 := hid (X2.out.grown hgs1 (fun e => by have := Option.some.inj e; have := N2.out; omega)); have Y := hid (below_set Y.out hgs1 (by have := N2.out; omega)); clear hS1 hgs1; refine hK.out _ _ ?_ (fun hHeld => ?_); (trivial); clear hK K; (try simp only [Act.put, List.setIfInBounds_toArray, List.set_cons_zero, List.set_cons_succ])
        refine reg_only 11 rfl (by kernel_rfl) (fun K hK => ?_); refine step_str rfl 23 _ _ rfl g9 _ rfl rfl _ zeroD X9.out hrz zeroD_size hro.out ?_; intro s2 hS2 hgs2 hy; clear hy; have X9 := hid hS2; have X8 := hid (X8.out.grown hgs2 (fun e => by have := Option.some.inj e; have := N89.out; omega)); have X2 := hid (X2.out.grown hgs2 (fun e => by have := Option.some.inj e; have := N2.out; omega)); have Y := hid (below_set Y.out hgs2 (by have := N2.out; omega)); clear hS2 hgs2; refine hK.out _ _ ?_ (fun hHeld => ?_); (trivial); clear hK K; (try simp only [Act.put, List.setIfInBounds_toArray, List.set_cons_zero, List.set_cons_succ])
        refine wpAnyH_done (by kernel_rfl) ?_ _
        go_wp2_with fail
        have X2 := hid X2.out.drew
        have Y := hid (below_drew1 Y.out)
        have R8 := hid (X8.out.drew.rdD hdl)
        have R9 := hid (X9.out.drew.rdD hdr)
        refine wp_region_held_drew (S := (fun _ => True)) (by kernel_rfl) trivial (fun hHeld => ?_)
        refine reg_take (v := ?_) 0 rfl (by kernel_rfl) (by kernel_rfl) (by kernel_rfl) (fun _ _ _ h => h) (Or.inl ⟨by rfl, ?_⟩) (by assumption) ?_; rotate_left; (intro w hSw; (try dsimp only at hSw); go_simp); (try with_reducible rfl); (try simp only [Act.put, List.setIfInBounds_toArray, List.set_cons_zero, List.set_cons_succ])
        refine reg_take (v := ?_) 1 rfl (by kernel_rfl) (by kernel_rfl) (by kernel_rfl) (fun _ _ _ h => h) (Or.inl ⟨by rfl, ?_⟩) (by assumption) ?_; rotate_left; (intro w hSw; (try dsimp only at hSw); go_simp); (try with_reducible rfl); (try simp only [Act.put, List.setIfInBounds_toArray, List.set_cons_zero, List.set_cons_succ])
        refine reg_only 2 rfl (by kernel_rfl) (fun K hK => ?_); go_simp; (with_reducible refine (hO.out _ _ _ R8.out R9.out).mono ?_); rintro e' w7 ⟨rfl, hb7⟩; have X2 := hid (X2.out.belowS hb7); have Y := hid (below_chain Y.out hb7); refine hK.out _ _ ?_ (fun hHeld => ?_); (trivial); clear hK K; (try simp only [Act.put, List.setIfInBounds_toArray, List.set_cons_zero, List.set_cons_succ])
        refine reg_only 3 rfl (by kernel_rfl) (fun K hK => ?_); refine step_str rfl 23 _ _ rfl w.heap.size _ rfl rfl _ _ X2.out h8z zeroD_size h8o.out ?_; intro wx hBx hgx hy; clear hy; refine hK.out _ _ ?_ (fun hHeld => ?_); (trivial); clear hK K; (try simp only [Act.put, List.setIfInBounds_toArray, List.set_cons_zero, List.set_cons_succ])
        refine wpAnyH_done (by kernel_rfl) ?_ _
        have hbf := below_set Y.out hgx (Nat.le_refl _)
        have hres := results_c (P := Tryd.prog) (fn := Tryd.f29) (p := 2) rfl
        go_wp2
        exact bodyPost_ret (hres _ _ w.heap.size _ _ rfl hBx Tryd.underlying23 rfl h8S) rfl ⟨rfl, hbf⟩
    · refine step_al rfl 23 rfl zeroD (zeroD_run _) ?_; intro u7 hBu7 hbu7 hy; clear hy; obtain ⟨g8, hg8⟩ : ∃ g8, u1.heap.size = g8 := ⟨_, rfl⟩; have M8 := hid (show w.heap.size < g8 by rw [← hg8]; exact X2.out.lt); rw [hg8] at hBu7 ⊢; have X2 := hid (X2.out.belowS hbu7); have Y := hid (below_chain Y.out hbu7); have X8 := hid hBu7; clear hBu7 hbu7 hg8; refine hK.out _ _ ?_ (fun hHeld => ?_); (trivial); clear hK K; (try simp only [Act.put, List.setIfInBounds_toArray, List.set_cons_zero, List.set_cons_succ])
      refine reg_two 7 9 rfl rfl (by kernel_rfl) (fun K hK => ?_) (fun K hK => ?_)
      · go_simp; (with_reducible refine (hR.out _ (HP.out.below Y.out)).mono ?_); rintro e' u8 ⟨rfl, hbu8⟩; have X2 := hid (X2.out.belowS hbu8); have Y := hid (below_chain Y.out hbu8); have X8 := hid (X8.out.belowS hbu8); clear hbu8; refine hK.out _ _ ?_ (fun hHeld => ?_); (trivial); clear hK K; (try simp only [Act.put, List.setIfInBounds_toArray, List.set_cons_zero, List.set_cons_succ])
        refine reg_only 9 rfl (by kernel_rfl) (fun K hK => ?_)
        refine step_al rfl 23 rfl zeroD (zeroD_run _) ?_; intro u9 hBu9 hbu9 hy; clear hy; obtain ⟨g9, hg9⟩ : ∃ g9, u8.heap.size = g9 := ⟨_, rfl⟩; have M9 := hid (show w.heap.size < g9 by rw [← hg9]; exact X2.out.lt); have N89 := hid (show g8 ≠ g9 by rw [← hg9]; exact Nat.ne_of_lt X8.out.lt); have N2 := hid (show w.heap.size < g8 ∧ w.heap.size < g9 from ⟨M8.out, M9.out⟩); rw [hg9] at hBu9 ⊢; have X2 := hid (X2.out.belowS hbu9); have Y := hid (below_chain Y.out hbu9); have X8 := hid (X8.out.belowS hbu9); have X9 := hid hBu9; clear hBu9 hbu9 hg9; refine hK.out _ _ ?_ (fun hHeld => ?_); (trivial); clear hK K; (try simp only [Act.put, List.setIfInBounds_toArray, List.set_cons_zero, List.set_cons_succ])
        refine reg_only 10 rfl (by kernel_rfl) (fun K hK => ?_); refine step_str rfl 23 _ _ rfl g8 _ rfl rfl _ zeroD X8.out hlz zeroD_size hlo.out ?_; intro s1 hS1 hgs1 hy; clear hy; have X8 := hid hS1; have X9 := hid (X9.out.grown hgs1 (fun e => by have := Option.some.inj e; have := N89.out; omega)); have X2 := hid (X2.out.grown hgs1 (fun e => by have := Option.some.inj e; have := N2.out; omega)); have Y := hid (below_set Y.out hgs1 (by have := N2.out; omega)); clear hS1 hgs1; refine hK.out _ _ ?_ (fun hHeld => ?_); (trivial); clear hK K; (try simp only [Act.put, List.setIfInBounds_toArray, List.set_cons_zero, List.set_cons_succ])
        refine reg_only 11 rfl (by kernel_rfl) (fun K hK => ?_); refine step_str rfl 23 _ _ rfl g9 _ rfl rfl _ zeroD X9.out hrz zeroD_size hro.out ?_; intro s2 hS2 hgs2 hy; clear hy; have X9 := hid hS2; have X8 := hid (X8.out.grown hgs2 (fun e => by have := Option.some.inj e; have := N89.out; omega)); have X2 := hid (X2.out.grown hgs2 (fun e => by have := Option.some.inj e; have := N2.out; omega)); have Y := hid (below_set Y.out hgs2 (by have := N2.out; omega)); clear hS2 hgs2; refine hK.out _ _ ?_ (fun hHeld => ?_); (trivial); clear hK K; (try simp only [Act.put, List.setIfInBounds_toArray, List.set_cons_zero, List.set_cons_succ])
        refine wpAnyH_done (by kernel_rfl) ?_ _
        go_wp2_with fail
        have X2 := hid X2.out.drew
        have Y := hid (below_drew1 Y.out)
        have R8 := hid (X8.out.drew.rdD hdl)
        have R9 := hid (X9.out.drew.rdD hdr)
        refine wp_region_held_drew (S := (fun _ => True)) (by kernel_rfl) trivial (fun hHeld => ?_)
        refine reg_take (v := ?_) 0 rfl (by kernel_rfl) (by kernel_rfl) (by kernel_rfl) (fun _ _ _ h => h) (Or.inl ⟨by rfl, ?_⟩) (by assumption) ?_; rotate_left; (intro w hSw; (try dsimp only at hSw); go_simp); (try with_reducible rfl); (try simp only [Act.put, List.setIfInBounds_toArray, List.set_cons_zero, List.set_cons_succ])
        refine reg_take (v := ?_) 1 rfl (by kernel_rfl) (by kernel_rfl) (by kernel_rfl) (fun _ _ _ h => h) (Or.inl ⟨by rfl, ?_⟩) (by assumption) ?_; rotate_left; (intro w hSw; (try dsimp only at hSw); go_simp); (try with_reducible rfl); (try simp only [Act.put, List.setIfInBounds_toArray, List.set_cons_zero, List.set_cons_succ])
        refine reg_only 2 rfl (by kernel_rfl) (fun K hK => ?_); go_simp; (with_reducible refine (hO.out _ _ _ R8.out R9.out).mono ?_); rintro e' w7 ⟨rfl, hb7⟩; have X2 := hid (X2.out.belowS hb7); have Y := hid (below_chain Y.out hb7); refine hK.out _ _ ?_ (fun hHeld => ?_); (trivial); clear hK K; (try simp only [Act.put, List.setIfInBounds_toArray, List.set_cons_zero, List.set_cons_succ])
        refine reg_only 3 rfl (by kernel_rfl) (fun K hK => ?_); refine step_str rfl 23 _ _ rfl w.heap.size _ rfl rfl _ _ X2.out h8z zeroD_size h8o.out ?_; intro wx hBx hgx hy; clear hy; refine hK.out _ _ ?_ (fun hHeld => ?_); (trivial); clear hK K; (try simp only [Act.put, List.setIfInBounds_toArray, List.set_cons_zero, List.set_cons_succ])
        refine wpAnyH_done (by kernel_rfl) ?_ _
        have hbf := below_set Y.out hgx (Nat.le_refl _)
        have hres := results_c (P := Tryd.prog) (fn := Tryd.f29) (p := 2) rfl
        go_wp2
        exact bodyPost_ret (hres _ _ w.heap.size _ _ rfl hBx Tryd.underlying23 rfl h8S) rfl ⟨rfl, hbf⟩
      · refine step_al rfl 23 rfl zeroD (zeroD_run _) ?_; intro u10 hBu10 hbu10 hy; clear hy; obtain ⟨g9, hg9⟩ : ∃ g9, u7.heap.size = g9 := ⟨_, rfl⟩; have M9 := hid (show w.heap.size < g9 by rw [← hg9]; exact X2.out.lt); have N89 := hid (show g8 ≠ g9 by rw [← hg9]; exact Nat.ne_of_lt X8.out.lt); have N2 := hid (show w.heap.size < g8 ∧ w.heap.size < g9 from ⟨M8.out, M9.out⟩); rw [hg9] at hBu10 ⊢; have X2 := hid (X2.out.belowS hbu10); have Y := hid (below_chain Y.out hbu10); have X8 := hid (X8.out.belowS hbu10); have X9 := hid hBu10; clear hBu10 hbu10 hg9; refine hK.out _ _ ?_ (fun hHeld => ?_); (trivial); clear hK K; (try simp only [Act.put, List.setIfInBounds_toArray, List.set_cons_zero, List.set_cons_succ])
        refine reg_only 7 rfl (by kernel_rfl) (fun K hK => ?_)
        go_simp; (with_reducible refine (hR.out _ (HP.out.below Y.out)).mono ?_); rintro e' u11 ⟨rfl, hbu11⟩; have X2 := hid (X2.out.belowS hbu11); have Y := hid (below_chain Y.out hbu11); have X8 := hid (X8.out.belowS hbu11); have X9 := hid (X9.out.belowS hbu11); clear hbu11; refine hK.out _ _ ?_ (fun hHeld => ?_); (trivial); clear hK K; (try simp only [Act.put, List.setIfInBounds_toArray, List.set_cons_zero, List.set_cons_succ])
        refine reg_only 10 rfl (by kernel_rfl) (fun K hK => ?_); refine step_str rfl 23 _ _ rfl g8 _ rfl rfl _ zeroD X8.out hlz zeroD_size hlo.out ?_; intro s1 hS1 hgs1 hy; clear hy; have X8 := hid hS1; have X9 := hid (X9.out.grown hgs1 (fun e => by have := Option.some.inj e; have := N89.out; omega)); have X2 := hid (X2.out.grown hgs1 (fun e => by have := Option.some.inj e; have := N2.out; omega)); have Y := hid (below_set Y.out hgs1 (by have := N2.out; omega)); clear hS1 hgs1; refine hK.out _ _ ?_ (fun hHeld => ?_); (trivial); clear hK K; (try simp only [Act.put, List.setIfInBounds_toArray, List.set_cons_zero, List.set_cons_succ])
        refine reg_only 11 rfl (by kernel_rfl) (fun K hK => ?_); refine step_str rfl 23 _ _ rfl g9 _ rfl rfl _ zeroD X9.out hrz zeroD_size hro.out ?_; intro s2 hS2 hgs2 hy; clear hy; have X9 := hid hS2; have X8 := hid (X8.out.grown hgs2 (fun e => by have := Option.some.inj e; have := N89.out; omega)); have X2 := hid (X2.out.grown hgs2 (fun e => by have := Option.some.inj e; have := N2.out; omega)); have Y := hid (below_set Y.out hgs2 (by have := N2.out; omega)); clear hS2 hgs2; refine hK.out _ _ ?_ (fun hHeld => ?_); (trivial); clear hK K; (try simp only [Act.put, List.setIfInBounds_toArray, List.set_cons_zero, List.set_cons_succ])
        refine wpAnyH_done (by kernel_rfl) ?_ _
        go_wp2_with fail
        have X2 := hid X2.out.drew
        have Y := hid (below_drew1 Y.out)
        have R8 := hid (X8.out.drew.rdD hdl)
        have R9 := hid (X9.out.drew.rdD hdr)
        refine wp_region_held_drew (S := (fun _ => True)) (by kernel_rfl) trivial (fun hHeld => ?_)
        refine reg_take (v := ?_) 0 rfl (by kernel_rfl) (by kernel_rfl) (by kernel_rfl) (fun _ _ _ h => h) (Or.inl ⟨by rfl, ?_⟩) (by assumption) ?_; rotate_left; (intro w hSw; (try dsimp only at hSw); go_simp); (try with_reducible rfl); (try simp only [Act.put, List.setIfInBounds_toArray, List.set_cons_zero, List.set_cons_succ])
        refine reg_take (v := ?_) 1 rfl (by kernel_rfl) (by kernel_rfl) (by kernel_rfl) (fun _ _ _ h => h) (Or.inl ⟨by rfl, ?_⟩) (by assumption) ?_; rotate_left; (intro w hSw; (try dsimp only at hSw); go_simp); (try with_reducible rfl); (try simp only [Act.put, List.setIfInBounds_toArray, List.set_cons_zero, List.set_cons_succ])
        refine reg_only 2 rfl (by kernel_rfl) (fun K hK => ?_); go_simp; (with_reducible refine (hO.out _ _ _ R8.out R9.out).mono ?_); rintro e' w7 ⟨rfl, hb7⟩; have X2 := hid (X2.out.belowS hb7); have Y := hid (below_chain Y.out hb7); refine hK.out _ _ ?_ (fun hHeld => ?_); (trivial); clear hK K; (try simp only [Act.put, List.setIfInBounds_toArray, List.set_cons_zero, List.set_cons_succ])
        refine reg_only 3 rfl (by kernel_rfl) (fun K hK => ?_); refine step_str rfl 23 _ _ rfl w.heap.size _ rfl rfl _ _ X2.out h8z zeroD_size h8o.out ?_; intro wx hBx hgx hy; clear hy; refine hK.out _ _ ?_ (fun hHeld => ?_); (trivial); clear hK K; (try simp only [Act.put, List.setIfInBounds_toArray, List.set_cons_zero, List.set_cons_succ])
        refine wpAnyH_done (by kernel_rfl) ?_ _
        have hbf := below_set Y.out hgx (Nat.le_refl _)
        have hres := results_c (P := Tryd.prog) (fn := Tryd.f29) (p := 2) rfl
        go_wp2
        exact bodyPost_ret (hres _ _ w.heap.size _ _ rfl hBx Tryd.underlying23 rfl h8S) rfl ⟨rfl, hbf⟩
    · refine step_al rfl 23 rfl zeroD (zeroD_run _) ?_; intro u12 hBu12 hbu12 hy; clear hy; obtain ⟨g9, hg9⟩ : ∃ g9, u1.heap.size = g9 := ⟨_, rfl⟩; have M9 := hid (show w.heap.size < g9 by rw [← hg9]; exact X2.out.lt); rw [hg9] at hBu12 ⊢; have X2 := hid (X2.out.belowS hbu12); have Y := hid (below_chain Y.out hbu12); have X9 := hid hBu12; clear hBu12 hbu12 hg9; refine hK.out _ _ ?_ (fun hHeld => ?_); (trivial); clear hK K; (try simp only [Act.put, List.setIfInBounds_toArray, List.set_cons_zero, List.set_cons_succ])
      refine reg_two 7 8 rfl rfl (by kernel_rfl) (fun K hK => ?_) (fun K hK => ?_)
      · go_simp; (with_reducible refine (hR.out _ (HP.out.below Y.out)).mono ?_); rintro e' u13 ⟨rfl, hbu13⟩; have X2 := hid (X2.out.belowS hbu13); have Y := hid (below_chain Y.out hbu13); have X9 := hid (X9.out.belowS hbu13); clear hbu13; refine hK.out _ _ ?_ (fun hHeld => ?_); (trivial); clear hK K; (try simp only [Act.put, List.setIfInBounds_toArray, List.set_cons_zero, List.set_cons_succ])
        refine reg_only 8 rfl (by kernel_rfl) (fun K hK => ?_)
        refine step_al rfl 23 rfl zeroD (zeroD_run _) ?_; intro u14 hBu14 hbu14 hy; clear hy; obtain ⟨g8, hg8⟩ : ∃ g8, u13.heap.size = g8 := ⟨_, rfl⟩; have M8 := hid (show w.heap.size < g8 by rw [← hg8]; exact X2.out.lt); have N89 := hid (show g9 ≠ g8 by rw [← hg8]; exact Nat.ne_of_lt X9.out.lt); have N2 := hid (show w.heap.size < g8 ∧ w.heap.size < g9 from ⟨M8.out, M9.out⟩); rw [hg8] at hBu14 ⊢; have X2 := hid (X2.out.belowS hbu14); have Y := hid (below_chain Y.out hbu14); have X9 := hid (X9.out.belowS hbu14); have X8 := hid hBu14; clear hBu14 hbu14 hg8; refine hK.out _ _ ?_ (fun hHeld => ?_); (trivial); clear hK K; (try simp only [Act.put, List.setIfInBounds_toArray, List.set_cons_zero, List.set_cons_succ])
        refine reg_only 10 rfl (by kernel_rfl) (fun K hK => ?_); refine step_str rfl 23 _ _ rfl g8 _ rfl rfl _ zeroD X8.out hlz zeroD_size hlo.out ?_; intro s1 hS1 hgs1 hy; clear hy; have X8 := hid hS1; have X9 := hid (X9.out.grown hgs1 (fun e => by have := Option.some.inj e; have := N89.out; omega)); have X2 := hid (X2.out.grown hgs1 (fun e => by have := Option.some.inj e; have := N2.out; omega)); have Y := hid (below_set Y.out hgs1 (by have := N2.out; omega)); clear hS1 hgs1; refine hK.out _ _ ?_ (fun hHeld => ?_); (trivial); clear hK K; (try simp only [Act.put, List.setIfInBounds_toArray, List.set_cons_zero, List.set_cons_succ])
        refine reg_only 11 rfl (by kernel_rfl) (fun K hK => ?_); refine step_str rfl 23 _ _ rfl g9 _ rfl rfl _ zeroD X9.out hrz zeroD_size hro.out ?_; intro s2 hS2 hgs2 hy; clear hy; have X9 := hid hS2; have X8 := hid (X8.out.grown hgs2 (fun e => by have := Option.some.inj e; have := N89.out; omega)); have X2 := hid (X2.out.grown hgs2 (fun e => by have := Option.some.inj e; have := N2.out; omega)); have Y := hid (below_set Y.out hgs2 (by have := N2.out; omega)); clear hS2 hgs2; refine hK.out _ _ ?_ (fun hHeld => ?_); (trivial); clear hK K; (try simp only [Act.put, List.setIfInBounds_toArray, List.set_cons_zero, List.set_cons_succ])
        refine wpAnyH_done (by kernel_rfl) ?_ _
        go_wp2_with fail
        have X2 := hid X2.out.drew
        have Y := hid (below_drew1 Y.out)
        have R8 := hid (X8.out.drew.rdD hdl)
        have R9 := hid (X9.out.drew.rdD hdr)
        refine wp_region_held_drew (S := (fun _ => True)) (by kernel_rfl) trivial (fun hHeld => ?_)
        refine reg_take (v := ?_) 0 rfl (by kernel_rfl) (by kernel_rfl) (by kernel_rfl) (fun _ _ _ h => h) (Or.inl ⟨by rfl, ?_⟩) (by assumption) ?_; rotate_left; (intro w hSw; (try dsimp only at hSw); go_simp); (try with_reducible rfl); (try simp only [Act.put, List.setIfInBounds_toArray, List.set_cons_zero, List.set_cons_succ])
        refine reg_take (v := ?_) 1 rfl (by kernel_rfl) (by kernel_rfl) (by kernel_rfl) (fun _ _ _ h => h) (Or.inl ⟨by rfl, ?_⟩) (by assumption) ?_; rotate_left; (intro w hSw; (try dsimp only at hSw); go_simp); (try with_reducible rfl); (try simp only [Act.put, List.setIfInBounds_toArray, List.set_cons_zero, List.set_cons_succ])
        refine reg_only 2 rfl (by kernel_rfl) (fun K hK => ?_); go_simp; (with_reducible refine (hO.out _ _ _ R8.out R9.out).mono ?_); rintro e' w7 ⟨rfl, hb7⟩; have X2 := hid (X2.out.belowS hb7); have Y := hid (below_chain Y.out hb7); refine hK.out _ _ ?_ (fun hHeld => ?_); (trivial); clear hK K; (try simp only [Act.put, List.setIfInBounds_toArray, List.set_cons_zero, List.set_cons_succ])
        refine reg_only 3 rfl (by kernel_rfl) (fun K hK => ?_); refine step_str rfl 23 _ _ rfl w.heap.size _ rfl rfl _ _ X2.out h8z zeroD_size h8o.out ?_; intro wx hBx hgx hy; clear hy; refine hK.out _ _ ?_ (fun hHeld => ?_); (trivial); clear hK K; (try simp only [Act.put, List.setIfInBounds_toArray, List.set_cons_zero, List.set_cons_succ])
        refine wpAnyH_done (by kernel_rfl) ?_ _
        have hbf := below_set Y.out hgx (Nat.le_refl _)
        have hres := results_c (P := Tryd.prog) (fn := Tryd.f29) (p := 2) rfl
        go_wp2
        exact bodyPost_ret (hres _ _ w.heap.size _ _ rfl hBx Tryd.underlying23 rfl h8S) rfl ⟨rfl, hbf⟩
      · refine step_al rfl 23 rfl zeroD (zeroD_run _) ?_; intro u15 hBu15 hbu15 hy; clear hy; obtain ⟨g8, hg8⟩ : ∃ g8, u12.heap.size = g8 := ⟨_, rfl⟩; have M8 := hid (show w.heap.size < g8 by rw [← hg8]; exact X2.out.lt); have N89 := hid (show g9 ≠ g8 by rw [← hg8]; exact Nat.ne_of_lt X9.out.lt); have N2 := hid (show w.heap.size < g8 ∧ w.heap.size < g9 from ⟨M8.out, M9.out⟩); rw [hg8] at hBu15 ⊢; have X2 := hid (X2.out.belowS hbu15); have Y := hid (below_chain Y.out hbu15); have X9 := hid (X9.out.belowS hbu15); have X8 := hid hBu15; clear hBu15 hbu15 hg8; refine hK.out _ _ ?_ (fun hHeld => ?_); (trivial); clear hK K; (try simp only [Act.put, List.setIfInBounds_toArray, List.set_cons_zero, List.set_cons_succ])
        refine reg_only 7 rfl (by kernel_rfl) (fun K hK => ?_)
        go_simp; (with_reducible refine (hR.out _ (HP.out.below Y.out)).mono ?_); rintro e' u16 ⟨rfl, hbu16⟩; have X2 := hid (X2.out.belowS hbu16); have Y := hid (below_chain Y.out hbu16); have X8 := hid (X8.out.belowS hbu16); have X9 := hid (X9.out.belowS hbu16); clear hbu16; refine hK.out _ _ ?_ (fun hHeld => ?_); (trivial); clear hK K; (try simp only [Act.put, List.setIfInBounds_toArray, List.set_cons_zero, List.set_cons_succ])
        refine reg_only 10 rfl (by kernel_rfl) (fun K hK => ?_); refine step_str rfl 23 _ _ rfl g8 _ rfl rfl _ zeroD X8.out hlz zeroD_size hlo.out ?_; intro s1 hS1 hgs1 hy; clear hy; have X8 := hid hS1; have X9 := hid (X9.out.grown hgs1 (fun e => by have := Option.some.inj e; have := N89.out; omega)); have X2 := hid (X2.out.grown hgs1 (fun e => by have := Option.some.inj e; have := N2.out; omega)); have Y := hid (below_set Y.out hgs1 (by have := N2.out; omega)); clear hS1 hgs1; refine hK.out _ _ ?_ (fun hHeld => ?_); (trivial); clear hK K; (try simp only [Act.put, List.setIfInBounds_toArray, List.set_cons_zero, List.set_cons_succ])
        refine reg_only 11 rfl (by kernel_rfl) (fun K hK => ?_); refine step_str rfl 23 _ _ rfl g9 _ rfl rfl _ zeroD X9.out hrz zeroD_size hro.out ?_; intro s2 hS2 hgs2 hy; clear hy; have X9 := hid hS2; have X8 := hid (X8.out.grown hgs2 (fun e => by have := Option.some.inj e; have := N89.out; omega)); have X2 := hid (X2.out.grown hgs2 (fun e => by have := Option.some.inj e; have := N2.out; omega)); have Y := hid (below_set Y.out hgs2 (by have := N2.out; omega)); clear hS2 hgs2; refine hK.out _ _ ?_ (fun hHeld => ?_); (trivial); clear hK K; (try simp only [Act.put, List.setIfInBounds_toArray, List.set_cons_zero, List.set_cons_succ])
        refine wpAnyH_done (by kernel_rfl) ?_ _
        go_wp2_with fail
        have X2 := hid X2.out.drew
        have Y := hid (below_drew1 Y.out)
        have R8 := hid (X8.out.drew.rdD hdl)
        have R9 := hid (X9.out.drew.rdD hdr)
        refine wp_region_held_drew (S := (fun _ => True)) (by kernel_rfl) trivial (fun hHeld => ?_)
        refine reg_take (v := ?_) 0 rfl (by kernel_rfl) (by kernel_rfl) (by kernel_rfl) (fun _ _ _ h => h) (Or.inl ⟨by rfl, ?_⟩) (by assumption) ?_; rotate_left; (intro w hSw; (try dsimp only at hSw); go_simp); (try with_reducible rfl); (try simp only [Act.put, List.setIfInBounds_toArray, List.set_cons_zero, List.set_cons_succ])
        refine reg_take (v := ?_) 1 rfl (by kernel_rfl) (by kernel_rfl) (by kernel_rfl) (fun _ _ _ h => h) (Or.inl ⟨by rfl, ?_⟩) (by assumption) ?_; rotate_left; (intro w hSw; (try dsimp only at hSw); go_simp); (try with_reducible rfl); (try simp only [Act.put, List.setIfInBounds_toArray, List.set_cons_zero, List.set_cons_succ])
        refine reg_only 2 rfl (by kernel_rfl) (fun K hK => ?_); go_simp; (with_reducible refine (hO.out _ _ _ R8.out R9.out).mono ?_); rintro e' w7 ⟨rfl, hb7⟩; have X2 := hid (X2.out.belowS hb7); have Y := hid (below_chain Y.out hb7); refine hK.out _ _ ?_ (fun hHeld => ?_); (trivial); clear hK K; (try simp only [Act.put, List.setIfInBounds_toArray, List.set_cons_zero, List.set_cons_succ])
        refine reg_only 3 rfl (by kernel_rfl) (fun K hK => ?_); refine step_str rfl 23 _ _ rfl w.heap.size _ rfl rfl _ _ X2.out h8z zeroD_size h8o.out ?_; intro wx hBx hgx hy; clear hy; refine hK.out _ _ ?_ (fun hHeld => ?_); (trivial); clear hK K; (try simp only [Act.put, List.setIfInBounds_toArray, List.set_cons_zero, List.set_cons_succ])
        refine wpAnyH_done (by kernel_rfl) ?_ _
        have hbf := below_set Y.out hgx (Nat.le_refl _)
        have hres := results_c (P := Tryd.prog) (fn := Tryd.f29) (p := 2) rfl
        go_wp2
        exact bodyPost_ret (hres _ _ w.heap.size _ _ rfl hBx Tryd.underlying23 rfl h8S) rfl ⟨rfl, hbf⟩
  · refine step_al rfl 23 rfl zeroD (zeroD_run _) ?_; intro u17 hBu17 hbu17 hy; clear hy; obtain ⟨g8, hg8⟩ : ∃ g8, cw.heap.size = g8 := ⟨_, rfl⟩; have M8 := hid (show w.heap.size < g8 by rw [← hg8]; exact X2.out.lt); rw [hg8] at hBu17 ⊢; have X2 := hid (X2.out.belowS hbu17); have Y := hid (below_chain Y.out hbu17); have X8 := hid hBu17; clear hBu17 hbu17 hg8; refine hK.out _ _ ?_ (fun hHeld => ?_); (trivial); clear hK K; (try simp only [Act.put, List.setIfInBounds_toArray, List.set_cons_zero, List.set_cons_succ])
    refine reg_two 3 9 rfl rfl (by kernel_rfl) (fun K hK => ?_) (fun K hK => ?_)
    · go_simp; (with_reducible refine (hL.out _ (HP.out.below Y.out)).mono ?_); rintro e' u18 ⟨rfl, hbu18⟩; have X2 := hid (X2.out.belowS hbu18); have Y := hid (below_chain Y.out hbu18); have X8 := hid (X8.out.belowS hbu18); clear hbu18; refine hK.out _ _ ?_ (fun hHeld => ?_); (trivial); clear hK K; (try simp only [Act.put, List.setIfInBounds_toArray, List.set_cons_zero, List.set_cons_succ])
      refine reg_two 7 9 rfl rfl (by kernel_rfl) (fun K hK => ?_) (fun K hK => ?_)
      · go_simp; (with_reducible refine (hR.out _ (HP.out.below Y.out)).mono ?_); rintro e' u19 ⟨rfl, hbu19⟩; have X2 := hid (X2.out.belowS hbu19); have Y := hid (below_chain Y.out hbu19); have X8 := hid (X8.out.belowS hbu19); clear hbu19; refine hK.out _ _ ?_ (fun hHeld => ?_); (trivial); clear hK K; (try simp only [Act.put, List.setIfInBounds_toArray, List.set_cons_zero, List.set_cons_succ])
        refine reg_only 9 rfl (by kernel_rfl) (fun K hK => ?_)
        refine step_al rfl 23 rfl zeroD (zeroD_run _) ?_; intro u20 hBu20 hbu20 hy; clear hy; obtain ⟨g9, hg9⟩ : ∃ g9, u19.heap.size = g9 := ⟨_, rfl⟩; have M9 := hid (show w.heap.size < g9 by rw [← hg9]; exact X2.out.lt); have N89 := hid (show g8 ≠ g9 by rw [← hg9]; exact Nat.ne_of_lt X8.out.lt); have N2 := hid (show w.heap.size < g8 ∧ w.heap.size < g9 from ⟨M8.out, M9.out⟩); rw [hg9] at hBu20 ⊢; have X2 := hid (X2.out.belowS hbu20); have Y := hid (below_chain Y.out hbu20); have X8 := hid (X8.out.belowS hbu20); have X9 := hid hBu20; clear hBu20 hbu20 hg9; refine hK.out _ _ ?_ (fun hHeld => ?_); (trivial); clear hK K; (try simp only [Act.put, List.setIfInBounds_toArray, List.set_cons_zero, List.set_cons_succ])
        refine reg_only 10 rfl (by kernel_rfl) (fun K hK => ?_); refine step_str rfl 23 _ _ rfl g8 _ rfl rfl _ zeroD X8.out hlz zeroD_size hlo.out ?_; intro s1 hS1 hgs1 hy; clear hy; have X8 := hid hS1; have X9 := hid (X9.out.grown hgs1 (fun e => by have := Option.some.inj e; have := N89.out; omega)); have X2 := hid (X2.out.grown hgs1 (fun e => by have := Option.some.inj e; have := N2.out; omega)); have Y := hid (below_set Y.out hgs1 (by have := N2.out; omega)); clear hS1 hgs1; refine hK.out _ _ ?_ (fun hHeld => ?_); (trivial); clear hK K; (try simp only [Act.put, List.setIfInBounds_toArray, List.set_cons_zero, List.set_cons_succ])
        refine reg_only 11 rfl (by kernel_rfl) (fun K hK => ?_); refine step_str rfl 23 _ _ rfl g9 _ rfl rfl _ zeroD X9.out hrz zeroD_size hro.out ?_; intro s2 hS2 hgs2 hy; clear hy; have X9 := hid hS2; have X8 := hid (X8.out.grown hgs2 (fun e => by have := Option.some.inj e; have := N89.out; omega)); have X2 := hid (X2.out.grown hgs2 (fun e => by have := Option.some.inj e; have := N2.out; omega)); have Y := hid (below_set Y.out hgs2 (by have := N2.out; omega)); clear hS2 hgs2; refine hK.out _ _ ?_ (fun hHeld => ?_); (trivial); clear hK K; (try simp only [Act.put, List.setIfInBounds_toArray, List.set_cons_zero, List.set_cons_succ])
        refine wpAnyH_done (by kernel_rfl) ?_ _
        go_wp2_with fail
        have X2 := hid X2.out.drew
        have Y := hid (below_drew1 Y.out)
        have R8 := hid (X8.out.drew.rdD hdl)
        have R9 := hid (X9.out.drew.rdD hdr)
        refine wp_region_held_drew (S := (fun _ => True)) (by kernel_rfl) trivial (fun hHeld => ?_)
        refine reg_take (v := ?_) 0 rfl (by kernel_rfl) (by kernel_rfl) (by kernel_rfl) (fun _ _ _ h => h) (Or.inl ⟨by rfl, ?_⟩) (by assumption) ?_; rotate_left; (intro w hSw; (try dsimp only at hSw); go_simp); (try with_reducible rfl); (try simp only [Act.put, List.setIfInBounds_toArray, List.set_cons_zero, List.set_cons_succ])
        refine reg_take (v := ?_) 1 rfl (by kernel_rfl) (by kernel_rfl) (by kernel_rfl) (fun _ _ _ h => h) (Or.inl ⟨by rfl, ?_⟩) (by assumption) ?_; rotate_left; (intro w hSw; (try dsimp only at hSw); go_simp); (try with_reducible rfl); (try simp only [Act.put, List.setIfInBounds_toArray, List.set_cons_zero, List.set_cons_succ])
        refine reg_only 2 rfl (by kernel_rfl) (fun K hK => ?_); go_simp; (with_reducible refine (hO.out _ _ _ R8.out R9.out).mono ?_); rintro e' w7 ⟨rfl, hb7⟩; have X2 := hid (X2.out.belowS hb7); have Y := hid (below_chain Y.out hb7); refine hK.out _ _ ?_ (fun hHeld => ?_); (trivial); clear hK K; (try simp only [Act.put, List.setIfInBounds_toArray, List.set_cons_zero, List.set_cons_succ])
        refine reg_only 3 rfl (by kernel_rfl) (fun K hK => ?_); refine step_str rfl 23 _ _ rfl w.heap.size _ rfl rfl _ _ X2.out h8z zeroD_size h8o.out ?_; intro wx hBx hgx hy; clear hy; refine hK.out _ _ ?_ (fun hHeld => ?_); (trivial); clear hK K; (try simp only [Act.put, List.setIfInBounds_toArray, List.set_cons_zero, List.set_cons_succ])
        refine wpAnyH_done (by kernel_rfl) ?_ _
        have hbf := below_set Y.out hgx (Nat.le_refl _)
        have hres := results_c (P := Tryd.prog) (fn := Tryd.f29) (p := 2) rfl
        go_wp2
        exact bodyPost_ret (hres _ _ w.heap.size _ _ rfl hBx Tryd.underlying23 rfl h8S) rfl ⟨rfl, hbf⟩
      · refine step_al rfl 23 rfl zeroD (zeroD_run _) ?_; intro u21 hBu21 hbu21 hy; clear hy; obtain ⟨g9, hg9⟩ : ∃ g9, u18.heap.size = g9 := ⟨_, rfl⟩; have M9 := hid (show w.heap.size < g9 by rw [← hg9]; exact X2.out.lt); have N89 := hid (show g8 ≠ g9 by rw [← hg9]; exact Nat.ne_of_lt X8.out.lt); have N2 := hid (show w.heap.size < g8 ∧ w.heap.size < g9 from ⟨M8.out, M9.out⟩); rw [hg9] at hBu21 ⊢; have X2 := hid (X2.out.belowS hbu21); have Y := hid (below_chain Y.out hbu21); have X8 := hid (X8.out.belowS hbu21); have X9 := hid hBu21; clear hBu21 hbu21 hg9; refine hK.out _ _ ?_ (fun hHeld => ?_); (trivial); clear hK K; (try simp only [Act.put, List.setIfInBounds_toArray, List.set_cons_zero, List.set_cons_succ])
        refine reg_only 7 rfl (by kernel_rfl) (fun K hK => ?_)
        go_simp; (with_reducible refine (hR.out _ (HP.out.below Y.out)).mono ?_); rintro e' u22 ⟨rfl, hbu22⟩; have X2 := hid (X2.out.belowS hbu22); have Y := hid (below_chain Y.out hbu22); have X8 := hid (X8.out.belowS hbu22); have X9 := hid (X9.out.belowS hbu22); clear hbu22; refine hK.out _ _ ?_ (fun hHeld => ?_); (trivial); clear hK K; (try simp only [Act.put, List.setIfInBounds_toArray, List.set_cons_zero, List.set_cons_succ])
        refine reg_only 10 rfl (by kernel_rfl) (fun K hK => ?_); refine step_str rfl 23 _ _ rfl g8 _ rfl rfl _ zeroD X8.out hlz zeroD_size hlo.out ?_; intro s1 hS1 hgs1 hy; clear hy; have X8 := hid hS1; have X9 := hid (X9.out.grown hgs1 (fun e => by have := Option.some.inj e; have := N89.out; omega)); have X2 := hid (X2.out.grown hgs1 (fun e => by have := Option.some.inj e; have := N2.out; omega)); have Y := hid (below_set Y.out hgs1 (by have := N2.out; omega)); clear hS1 hgs1; refine hK.out _ _ ?_ (fun hHeld => ?_); (trivial); clear hK K; (try simp only [Act.put, List.setIfInBounds_toArray, List.set_cons_zero, List.set_cons_succ])
        refine reg_only 11 rfl (by kernel_rfl) (fun K hK => ?_); refine step_str rfl 23 _ _ rfl g9 _ rfl rfl _ zeroD X9.out hrz zeroD_size hro.out ?_; intro s2 hS2 hgs2 hy; clear hy; have X9 := hid hS2; have X8 := hid (X8.out.grown hgs2 (fun e => by have := Option.some.inj e; have := N89.out; omega)); have X2 := hid (X2.out.grown hgs2 (fun e => by have := Option.some.inj e; have := N2.out; omega)); have Y := hid (below_set Y.out hgs2 (by have := N2.out; omega)); clear hS2 hgs2; refine hK.out _ _ ?_ (fun hHeld => ?_); (trivial); clear hK K; (try simp only [Act.put, List.setIfInBounds_toArray, List.set_cons_zero, List.set_cons_succ])
        refine wpAnyH_done (by kernel_rfl) ?_ _
        go_wp2_with fail
        have X2 := hid X2.out.drew
        have Y := hid (below_drew1 Y.out)
        have R8 := hid (X8.out.drew.rdD hdl)
        have R9 := hid (X9.out.drew.rdD hdr)
        refine wp_region_held_drew (S := (fun _ => True)) (by kernel_rfl) trivial (fun hHeld => ?_)
        refine reg_take (v := ?_) 0 rfl (by kernel_rfl) (by kernel_rfl) (by kernel_rfl) (fun _ _ _ h => h) (Or.inl ⟨by rfl, ?_⟩) (by assumption) ?_; rotate_left; (intro w hSw; (try dsimp only at hSw); go_simp); (try with_reducible rfl); (try simp only [Act.put, List.setIfInBounds_toArray, List.set_cons_zero, List.set_cons_succ])
        refine reg_take (v := ?_) 1 rfl (by kernel_rfl) (by kernel_rfl) (by kernel_rfl) (fun _ _ _ h => h) (Or.inl ⟨by rfl, ?_⟩) (by assumption) ?_; rotate_left; (intro w hSw; (try dsimp only at hSw); go_simp); (try with_reducible rfl); (try simp only [Act.put, List.setIfInBounds_toArray, List.set_cons_zero, List.set_cons_succ])
        refine reg_only 2 rfl (by kernel_rfl) (fun K hK => ?_); go_simp; (with_reducible refine (hO.out _ _ _ R8.out R9.out).mono ?_); rintro e' w7 ⟨rfl, hb7⟩; have X2 := hid (X2.out.belowS hb7); have Y := hid (below_chain Y.out hb7); refine hK.out _ _ ?_ (fun hHeld => ?_); (trivial); clear hK K; (try simp only [Act.put, List.setIfInBounds_toArray, List.set_cons_zero, List.set_cons_succ])
        refine reg_only 3 rfl (by kernel_rfl) (fun K hK => ?_); refine step_str rfl 23 _ _ rfl w.heap.size _ rfl rfl _ _ X2.out h8z zeroD_size h8o.out ?_; intro wx hBx hgx hy; clear hy; refine hK.out _ _ ?_ (fun hHeld => ?_); (trivial); clear hK K; (try simp only [Act.put, List.setIfInBounds_toArray, List.set_cons_zero, List.set_cons_succ])
        refine wpAnyH_done (by kernel_rfl) ?_ _
        have hbf := below_set Y.out hgx (Nat.le_refl _)
        have hres := results_c (P := Tryd.prog) (fn := Tryd.f29) (p := 2) rfl
        go_wp2
        exact bodyPost_ret (hres _ _ w.heap.size _ _ rfl hBx Tryd.underlying23 rfl h8S) rfl ⟨rfl, hbf⟩
    · refine step_al rfl 23 rfl zeroD (zeroD_run _) ?_; intro u23 hBu23 hbu23 hy; clear hy; obtain ⟨g9, hg9⟩ : ∃ g9, u17.heap.size = g9 := ⟨_, rfl⟩; have M9 := hid (show w.heap.size < g9 by rw [← hg9]; exact X2.out.lt); have N89 := hid (show g8 ≠ g9 by rw [← hg9]; exact Nat.ne_of_lt X8.out.lt); have N2 := hid (show w.heap.size < g8 ∧ w.heap.size < g9 from ⟨M8.out, M9.out⟩); rw [hg9] at hBu23 ⊢; have X2 := hid (X2.out.belowS hbu23); have Y := hid (below_chain Y.out hbu23); have X8 := hid (X8.out.belowS hbu23); have X9 := hid hBu23; clear hBu23 hbu23 hg9; refine hK.out _ _ ?_ (fun hHeld => ?_); (trivial); clear hK K; (try simp only [Act.put, List.setIfInBounds_toArray, List.set_cons_zero, List.set_cons_succ])
      refine reg_only 3 rfl (by kernel_rfl) (fun K hK => ?_)
      go_simp; (with_reducible refine (hL.out _ (HP.out.below Y.out)).mono ?_); rintro e' u24 ⟨rfl, hbu24⟩; have X2 := hid (X2.out.belowS hbu24); have Y := hid (below_chain Y.out hbu24); have X8 := hid (X8.out.belowS hbu24); have X9 := hid (X9.out.belowS hbu24); clear hbu24; refine hK.out _ _ ?_ (fun hHeld => ?_); (trivial); clear hK K; (try simp only [Act.put, List.setIfInBounds_toArray, List.set_cons_zero, List.set_cons_succ])
      refine reg_only 7 rfl (by kernel_rfl) (fun K hK => ?_)
      go_simp; (with_reducible refine (hR.out _ (HP.out.below Y.out)).mono ?_); rintro e' u25 ⟨rfl, hbu25⟩; have X2 := hid (X2.out.belowS hbu25); have Y := hid (below_chain Y.out hbu25); have X8 := hid (X8.out.belowS hbu25); have X9 := hid (X9.out.belowS hbu25); clear hbu25; refine hK.out _ _ ?_ (fun hHeld => ?_); (trivial); clear hK K; (try simp only [Act.put, List.setIfInBounds_toArray, List.set_cons_zero, List.set_cons_succ])
      refine reg_only 10 rfl (by kernel_rfl) (fun K hK => ?_); refine step_str rfl 23 _ _ rfl g8 _ rfl rfl _ zeroD X8.out hlz zeroD_size hlo.out ?_; intro s1 hS1 hgs1 hy; clear hy; have X8 := hid hS1; have X9 := hid (X9.out.grown hgs1 (fun e => by have := Option.some.inj e; have := N89.out; omega)); have X2 := hid (X2.out.grown hgs1 (fun e => by have := Option.some.inj e; have := N2.out; omega)); have Y := hid (below_set Y.out hgs1 (by have := N2.out; omega)); clear hS1 hgs1; refine hK.out _ _ ?_ (fun hHeld => ?_); (trivial); clear hK K; (try simp only [Act.put, List.setIfInBounds_toArray, List.set_cons_zero, List.set_cons_succ])
      refine reg_only 11 rfl (by kernel_rfl) (fun K hK => ?_); refine step_str rfl 23 _ _ rfl g9 _ rfl rfl _ zeroD X9.out hrz zeroD_size hro.out ?_; intro s2 hS2 hgs2 hy; clear hy; have X9 := hid hS2; have X8 := hid (X8.out.grown hgs2 (fun e => by have := Option.some.inj e; have := N89.out; omega)); have X2 := hid (X2.out.grown hgs2 (fun e => by have := Option.some.inj e; have := N2.out; omega)); have Y := hid (below_set Y.out hgs2 (by have := N2.out; omega)); clear hS2 hgs2; refine hK.out _ _ ?_ (fun hHeld => ?_); (trivial); clear hK K; (try simp only [Act.put, List.setIfInBounds_toArray, List.set_cons_zero, List.set_cons_succ])
      refine wpAnyH_done (by kernel_rfl) ?_ _
      go_wp2_with fail
      have X2 := hid X2.out.drew
      have Y := hid (below_drew1 Y.out)
      have R8 := hid (X8.out.drew.rdD hdl)
      have R9 := hid (X9.out.drew.rdD hdr)
      refine wp_region_held_drew (S := (fun _ => True)) (by kernel_rfl) trivial (fun hHeld => ?_)
      refine reg_take (v := ?_) 0 rfl (by kernel_rfl) (by kernel_rfl) (by kernel_rfl) (fun _ _ _ h => h) (Or.inl ⟨by rfl, ?_⟩) (by assumption) ?_; rotate_left; (intro w hSw; (try dsimp only at hSw); go_simp); (try with_reducible rfl); (try simp only [Act.put, List.setIfInBounds_toArray, List.set_cons_zero, List.set_cons_succ])
      refine reg_take (v := ?_) 1 rfl (by kernel_rfl) (by kernel_rfl) (by kernel_rfl) (fun _ _ _ h => h) (Or.inl ⟨by rfl, ?_⟩) (by assumption) ?_; rotate_left; (intro w hSw; (try dsimp only at hSw); go_simp); (try with_reducible rfl); (try simp only [Act.put, List.setIfInBounds_toArray, List.set_cons_zero, List.set_cons_succ])
      refine reg_only 2 rfl (by kernel_rfl) (fun K hK => ?_); go_simp; (with_reducible refine (hO.out _ _ _ R8.out R9.out).mono ?_); rintro e' w7 ⟨rfl, hb7⟩; have X2 := hid (X2.out.belowS hb7); have Y := hid (below_chain Y.out hb7); refine hK.out _ _ ?_ (fun hHeld => ?_); (trivial); clear hK K; (try simp only [Act.put, List.setIfInBounds_toArray, List.set_cons_zero, List.set_cons_succ])
      refine reg_only 3 rfl (by kernel_rfl) (fun K hK => ?_); refine step_str rfl 23 _ _ rfl w.heap.size _ rfl rfl _ _ X2.out h8z zeroD_size h8o.out ?_; intro wx hBx hgx hy; clear hy; refine hK.out _ _ ?_ (fun hHeld => ?_); (trivial); clear hK K; (try simp only [Act.put, List.setIfInBounds_toArray, List.set_cons_zero, List.set_cons_succ])
      refine wpAnyH_done (by kernel_rfl) ?_ _
      have hbf := below_set Y.out hgx (Nat.le_refl _)
      have hres := results_c (P := Tryd.prog) (fn := Tryd.f29) (p := 2) rfl
      go_wp2
      exact bodyPost_ret (hres _ _ w.heap.size _ _ rfl hBx Tryd.underlying23 rfl h8S) rfl ⟨rfl, hbf⟩
  · refine step_al rfl 23 rfl zeroD (zeroD_run _) ?_; intro u26 hBu26 hbu26 hy; clear hy; obtain ⟨g9, hg9⟩ : ∃ g9, cw.heap.size = g9 := ⟨_, rfl⟩; have M9 := hid (show w.heap.size < g9 by rw [← hg9]; exact X2.out.lt); rw [hg9] at hBu26 ⊢; have X2 := hid (X2.out.belowS hbu26); have Y := hid (below_chain Y.out hbu26); have X9 := hid hBu26; clear hBu26 hbu26 hg9; refine hK.out _ _ ?_ (fun hHeld => ?_); (trivial); clear hK K; (try simp only [Act.put, List.setIfInBounds_toArray, List.set_cons_zero, List.set_cons_succ])
    refine reg_two 3 8 rfl rfl (by kernel_rfl) (fun K hK => ?_) (fun K hK => ?_)
    · go_simp; (with_reducible refine (hL.out _ (HP.out.below Y.out)).mono ?_); rintro e' u27 ⟨rfl, hbu27⟩; have X2 := hid (X2.out.belowS hbu27); have Y := hid (below_chain Y.out hbu27); have X9 := hid (X9.out.belowS hbu27); clear hbu27; refine hK.out _ _ ?_ (fun hHeld => ?_); (trivial); clear hK K; (try simp only [Act.put, List.setIfInBounds_toArray, List.set_cons_zero, List.set_cons_succ])
      refine reg_two 7 8 rfl rfl (by kernel_rfl) (fun K hK => ?_) (fun K hK => ?_)
      · go_simp; (with_reducible refine (hR.out _ (HP.out.below Y.out)).mono ?_); rintro e' u28 ⟨rfl, hbu28⟩; have X2 := hid (X2.out.belowS hbu28); have Y := hid (below_chain Y.out hbu28); have X9 := hid (X9.out.belowS hbu28); clear hbu28; refine hK.out _ _ ?_ (fun hHeld => ?_); (trivial); clear hK K; (try simp only [Act.put, List.setIfInBounds_toArray, List.set_cons_zero, List.set_cons_succ])
        refine reg_only 8 rfl (by kernel_rfl) (fun K hK => ?_)
        refine step_al rfl 23 rfl zeroD (zeroD_run _) ?_; intro u29 hBu29 hbu29 hy; clear hy; obtain ⟨g8, hg8⟩ : ∃ g8, u28.heap.size = g8 := ⟨_, rfl⟩; have M8 := hid (show w.heap.size < g8 by rw [← hg8]; exact X2.out.lt); have N89 := hid (show g9 ≠ g8 by rw [← hg8]; exact Nat.ne_of_lt X9.out.lt); have N2 := hid (show w.heap.size < g8 ∧ w.heap.size < g9 from ⟨M8.out, M9.out⟩); rw [hg8] at hBu29 ⊢; have X2 := hid (X2.out.belowS hbu29); have Y := hid (below_chain Y.out hbu29); have X9 := hid (X9.out.belowS hbu29); have X8 := hid hBu29; clear hBu29 hbu29 hg8; refine hK.out _ _ ?_ (fun hHeld => ?_); (trivial); clear hK K; (try simp only [Act.put, List.setIfInBounds_toArray, List.set_cons_zero, List.set_cons_succ])
        refine reg_only 10 rfl (by kernel_rfl) (fun K hK => ?_); refine step_str rfl 23 _ _ rfl g8 _ rfl rfl _ zeroD X8.out hlz zeroD_size hlo.out ?_; intro s1 hS1 hgs1 hy; clear hy; have X8 := hid hS1; have X9 := hid (X9.out.grown hgs1 (fun e => by have := Option.some.inj e; have := N89.out; omega)); have X2 := hid (X2.out.grown hgs1 (fun e => by have := Option.some.inj e; have := N2.out; omega)); have Y := hid (below_set Y.out hgs1 (by have := N2.out; omega)); clear hS1 hgs1; refine hK.out _ _ ?_ (fun hHeld => ?_); (trivial); clear hK K; (try simp only [Act.put, List.setIfInBounds_toArray, List.set_cons_zero, List.set_cons_succ])
        refine reg_only 11 rfl (by kernel_rfl) (fun K hK => ?_); refine step_str rfl 23 _ _ rfl g9 _ rfl rfl _ zeroD X9.out hrz zeroD_size hro.out ?_; intro s2 hS2 hgs2 hy; clear hy; have X9 := hid hS2; have X8 := hid (X8.out.grown hgs2 (fun e => by have := Option.some.inj e; have := N89.out; omega)); have X2 := hid (X2.out.grown hgs2 (fun e => by have := Option.some.inj e; have := N2.out; omega)); have Y := hid (below_set Y.out hgs2 (by have := N2.out; omega)); clear hS2 hgs2; refine hK.out _ _ ?_ (fun hHeld => ?_); (trivial); clear hK K; (try simp only [Act.put, List.setIfInBounds_toArray, List.set_cons_zero, List.set_cons_succ])
        refine wpAnyH_done (by kernel_rfl) ?_ _
        go_wp2_with fail
        have X2 := hid X2.out.drew
        have Y := hid (below_drew1 Y.out)
        have R8 := hid (X8.out.drew.rdD hdl)
        have R9 := hid (X9.out.drew.rdD hdr)
        refine wp_region_held_drew (S := (fun _ => True)) (by kernel_rfl) trivial (fun hHeld => ?_)
        refine reg_take (v := ?_) 0 rfl (by kernel_rfl) (by kernel_rfl) (by kernel_rfl) (fun _ _ _ h => h) (Or.inl ⟨by rfl, ?_⟩) (by assumption) ?_; rotate_left; (intro w hSw; (try dsimp only at hSw); go_simp); (try with_reducible rfl); (try simp only [Act.put, List.setIfInBounds_toArray, List.set_cons_zero, List.set_cons_succ])
        refine reg_take (v := ?_) 1 rfl (by kernel_rfl) (by kernel_rfl) (by kernel_rfl) (fun _ _ _ h => h) (Or.inl ⟨by rfl, ?_⟩) (by assumption) ?_; rotate_left; (intro w hSw; (try dsimp only at hSw); go_simp); (try with_reducible rfl); (try simp only [Act.put, List.setIfInBounds_toArray, List.set_cons_zero, List.set_cons_succ])
        refine reg_only 2 rfl (by kernel_rfl) (fun K hK => ?_); go_simp; (with_reducible refine (hO.out _ _ _ R8.out R9.out).mono ?_); rintro e' w7 ⟨rfl, hb7⟩; have X2 := hid (X2.out.belowS hb7); have Y := hid (below_chain Y.out hb7); refine hK.out _ _ ?_ (fun hHeld => ?_); (trivial); clear hK K; (try simp only [Act.put, List.setIfInBounds_toArray, List.set_cons_zero, List.set_cons_succ])
        refine reg_only 3 rfl (by kernel_rfl) (fun K hK => ?_); refine step_str rfl 23 _ _ rfl w.heap.size _ rfl rfl _ _ X2.out h8z zeroD_size h8o.out ?_; intro wx hBx hgx hy; clear hy; refine hK.out _ _ ?_ (fun hHeld => ?_); (trivial); clear hK K; (try simp only [Act.put, List.setIfInBounds_toArray, List.set_cons_zero, List.set_cons_succ])
        refine wpAnyH_done (by kernel_rfl) ?_ _
        have hbf := below_set Y.out hgx (Nat.le_refl _)
        have hres := results_c (P := Tryd.prog) (fn := Tryd.f29) (p := 2) rfl
        go_wp2
        exact bodyPost_ret (hres _ _ w.heap.size _ _ rfl hBx Tryd.underlying23 rfl h8S) rfl ⟨rfl, hbf⟩
      · refine step_al rfl 23 rfl zeroD (zeroD_run _) ?_; intro u30 hBu30 hbu30 hy; clear hy; obtain ⟨g8, hg8⟩ : ∃ g8, u27.heap.size = g8 := ⟨_, rfl⟩; have M8 := hid (show w.heap.size < g8 by rw [← hg8]; exact X2.out.lt); have N89 := hid (show g9 ≠ g8 by rw [← hg8]; exact Nat.ne_of_lt X9.out.lt); have N2 := hid (show w.heap.size < g8 ∧ w.heap.size < g9 from ⟨M8.out, M9.out⟩); rw [hg8] at hBu30 ⊢; have X2 := hid (X2.out.belowS hbu30); have Y := hid (below_chain Y.out hbu30); have X9 := hid (X9.out.belowS hbu30); have X8 := hid hBu30; clear hBu30 hbu30 hg8; refine hK.out _ _ ?_ (fun hHeld => ?_); (trivial); clear hK K; (try simp only [Act.put, List.setIfInBounds_toArray, List.set_cons_zero, List.set_cons_succ])
        refine reg_only 7 rfl (by kernel_rfl) (fun K hK => ?_)
        go_simp; (with_reducible refine (hR.out _ (HP.out.below Y.out)).mono ?_); rintro e' u31 ⟨rfl, hbu31⟩; have X2 := hid (X2.out.belowS hbu31); have Y := hid (below_chain Y.out hbu31); have X8 := hid (X8.out.belowS hbu31); have X9 := hid (X9.out.belowS hbu31); clear hbu31; refine hK.out _ _ ?_ (fun hHeld => ?_); (trivial); clear hK K; (try simp only [Act.put, List.setIfInBounds_toArray, List.set_cons_zero, List.set_cons_succ])
        refine reg_only 10 rfl (by kernel_rfl) (fun K hK => ?_); refine step_str rfl 23 _ _ rfl g8 _ rfl rfl _ zeroD X8.out hlz zeroD_size hlo.out ?_; intro s1 hS1 hgs1 hy; clear hy; have X8 := hid hS1; have X9 := hid (X9.out.grown hgs1 (fun e => by have := Option.some.inj e; have := N89.out; omega)); have X2 := hid (X2.out.grown hgs1 (fun e => by have := Option.some.inj e; have := N2.out; omega)); have Y := hid (below_set Y.out hgs1 (by have := N2.out; omega)); clear hS1 hgs1; refine hK.out _ _ ?_ (fun hHeld => ?_); (trivial); clear hK K; (try simp only [Act.put, List.setIfInBounds_toArray, List.set_cons_zero, List.set_cons_succ])
        refine reg_only 11 rfl (by kernel_rfl) (fun K hK => ?_); refine step_str rfl 23 _ _ rfl g9 _ rfl rfl _ zeroD X9.out hrz zeroD_size hro.out ?_; intro s2 hS2 hgs2 hy; clear hy; have X9 := hid hS2; have X8 := hid (X8.out.grown hgs2 (fun e => by have := Option.some.inj e; have := N89.out; omega)); have X2 := hid (X2.out.grown hgs2 (fun e => by have := Option.some.inj e; have := N2.out; omega)); have Y := hid (below_set Y.out hgs2 (by have := N2.out; omega)); clear hS2 hgs2; refine hK.out _ _ ?_ (fun hHeld => ?_); (trivial); clear hK K; (try simp only [Act.put, List.setIfInBounds_toArray, List.set_cons_zero, List.set_cons_succ])
        refine wpAnyH_done (by kernel_rfl) ?_ _
        go_wp2_with fail
        have X2 := hid X2.out.drew
        have Y := hid (below_drew1 Y.out)
        have R8 := hid (X8.out.drew.rdD hdl)
        have R9 := hid (X9.out.drew.rdD hdr)
        refine wp_region_held_drew (S := (fun _ => True)) (by kernel_rfl) trivial (fun hHeld => ?_)
        refine reg_take (v := ?_) 0 rfl (by kernel_rfl) (by kernel_rfl) (by kernel_rfl) (fun _ _ _ h => h) (Or.inl ⟨by rfl, ?_⟩) (by assumption) ?_; rotate_left; (intro w hSw; (try dsimp only at hSw); go_simp); (try with_reducible rfl); (try simp only [Act.put, List.setIfInBounds_toArray, List.set_cons_zero, List.set_cons_succ])
        refine reg_take (v := ?_) 1 rfl (by kernel_rfl) (by kernel_rfl) (by kernel_rfl) (fun _ _ _ h => h) (Or.inl ⟨by rfl, ?_⟩) (by assumption) ?_; rotate_left; (intro w hSw; (try dsimp only at hSw); go_simp); (try with_reducible rfl); (try simp only [Act.put, List.setIfInBounds_toArray, List.set_cons_zero, List.set_cons_succ])
        refine reg_only 2 rfl (by kernel_rfl) (fun K hK => ?_); go_simp; (with_reducible refine (hO.out _ _ _ R8.out R9.out).mono ?_); rintro e' w7 ⟨rfl, hb7⟩; have X2 := hid (X2.out.belowS hb7); have Y := hid (below_chain Y.out hb7); refine hK.out _ _ ?_ (fun hHeld => ?_); (trivial); clear hK K; (try simp only [Act.put, List.setIfInBounds_toArray, List.set_cons_zero, List.set_cons_succ])
        refine reg_only 3 rfl (by kernel_rfl) (fun K hK => ?_); refine step_str rfl 23 _ _ rfl w.heap.size _ rfl rfl _ _ X2.out h8z zeroD_size h8o.out ?_; intro wx hBx hgx hy; clear hy; refine hK.out _ _ ?_ (fun hHeld => ?_); (trivial); clear hK K; (try simp only [Act.put, List.setIfInBounds_toArray, List.set_cons_zero, List.set_cons_succ])
        refine wpAnyH_done (by kernel_rfl) ?_ _
        have hbf := below_set Y.out hgx (Nat.le_refl _)
        have hres := results_c (P := Tryd.prog) (fn := Tryd.f29) (p := 2) rfl
        go_wp2
        exact bodyPost_ret (hres _ _ w.heap.size _ _ rfl hBx Tryd.underlying23 rfl h8S) rfl ⟨rfl, hbf⟩
    · refine step_al rfl 23 rfl zeroD (zeroD_run _) ?_; intro u32 hBu32 hbu32 hy; clear hy; obtain ⟨g8, hg8⟩ : ∃ g8, u26.heap.size = g8 := ⟨_, rfl⟩; have M8 := hid (show w.heap.size < g8 by rw [← hg8]; exact X2.out.lt); have N89 := hid (show g9 ≠ g8 by rw [← hg8]; exact Nat.ne_of_lt X9.out.lt); have N2 := hid (show w.heap.size < g8 ∧ w.heap.size < g9 from ⟨M8.out, M9.out⟩); rw [hg8] at hBu32 ⊢; have X2 := hid (X2.out.belowS hbu32); have Y := hid (below_chain Y.out hbu32); have X9 := hid (X9.out.belowS hbu32); have X8 := hid hBu32; clear hBu32 hbu32 hg8; refine hK.out _ _ ?_ (fun hHeld => ?_); (trivial); clear hK K; (try simp only [Act.put, List.setIfInBounds_toArray, List.set_cons_zero, List.set_cons_succ])
      refine reg_only 3 rfl (by kernel_rfl) (fun K hK => ?_)
      go_simp; (with_reducible refine (hL.out _ (HP.out.below Y.out)).mono ?_); rintro e' u33 ⟨rfl, hbu33⟩; have X2 := hid (X2.out.belowS hbu33); have Y := hid (below_chain Y.out hbu33); have X8 := hid (X8.out.belowS hbu33); have X9 := hid (X9.out.belowS hbu33); clear hbu33; refine hK.out _ _ ?_ (fun hHeld => ?_); (trivial); clear hK K; (try simp only [Act.put, List.setIfInBounds_toArray, List.set_cons_zero, List.set_cons_succ])
      refine reg_only 7 rfl (by kernel_rfl) (fun K hK => ?_)
      go_simp; (with_reducible refine (hR.out _ (HP.out.below Y.out)).mono ?_); rintro e' u34 ⟨rfl, hbu34⟩; have X2 := hid (X2.out.belowS hbu34); have Y := hid (below_chain Y.out hbu34); have X8 := hid (X8.out.belowS hbu34); have X9 := hid (X9.out.belowS hbu34); clear hbu34; refine hK.out _ _ ?_ (fun hHeld => ?_); (trivial); clear hK K; (try simp only [Act.put, List.setIfInBounds_toArray, List.set_cons_zero, List.set_cons_succ])
      refine reg_only 10 rfl (by kernel_rfl) (fun K hK => ?_); refine step_str rfl 23 _ _ rfl g8 _ rfl rfl _ zeroD X8.out hlz zeroD_size hlo.out ?_; intro s1 hS1 hgs1 hy; clear hy; have X8 := hid hS1; have X9 := hid (X9.out.grown hgs1 (fun e => by have := Option.some.inj e; have := N89.out; omega)); have X2 := hid (X2.out.grown hgs1 (fun e => by have := Option.some.inj e; have := N2.out; omega)); have Y := hid (below_set Y.out hgs1 (by have := N2.out; omega)); clear hS1 hgs1; refine hK.out _ _ ?_ (fun hHeld => ?_); (trivial); clear hK K; (try simp only [Act.put, List.setIfInBounds_toArray, List.set_cons_zero, List.set_cons_succ])
      refine reg_only 11 rfl (by kernel_rfl) (fun K hK => ?_); refine step_str rfl 23 _ _ rfl g9 _ rfl rfl _ zeroD X9.out hrz zeroD_size hro.out ?_; intro s2 hS2 hgs2 hy; clear hy; have X9 := hid hS2; have X8 := hid (X8.out.grown hgs2 (fun e => by have := Option.some.inj e; have := N89.out; omega)); have X2 := hid (X2.out.grown hgs2 (fun e => by have := Option.some.inj e; have := N2.out; omega)); have Y := hid (below_set Y.out hgs2 (by have := N2.out; omega)); clear hS2 hgs2; refine hK.out _ _ ?_ (fun hHeld => ?_); (trivial); clear hK K; (try simp only [Act.put, List.setIfInBounds_toArray, List.set_cons_zero, List.set_cons_succ])
      refine wpAnyH_done (by kernel_rfl) ?_ _
      go_wp2_with fail
      have X2 := hid X2.out.drew
      have Y := hid (below_drew1 Y.out)
      have R8 := hid (X8.out.drew.rdD hdl)
      have R9 := hid (X9.out.drew.rdD hdr)
      refine wp_region_held_drew (S := (fun _ => True)) (by kernel_rfl) trivial (fun hHeld => ?_)
      refine reg_take (v := ?_) 0 rfl (by kernel_rfl) (by kernel_rfl) (by kernel_rfl) (fun _ _ _ h => h) (Or.inl ⟨by rfl, ?_⟩) (by assumption) ?_; rotate_left; (intro w hSw; (try dsimp only at hSw); go_simp); (try with_reducible rfl); (try simp only [Act.put, List.setIfInBounds_toArray, List.set_cons_zero, List.set_cons_succ])
      refine reg_take (v := ?_) 1 rfl (by kernel_rfl) (by kernel_rfl) (by kernel_rfl) (fun _ _ _ h => h) (Or.inl ⟨by rfl, ?_⟩) (by assumption) ?_; rotate_left; (intro w hSw; (try dsimp only at hSw); go_simp); (try with_reducible rfl); (try simp only [Act.put, List.setIfInBounds_toArray, List.set_cons_zero, List.set_cons_succ])
      refine reg_only 2 rfl (by kernel_rfl) (fun K hK => ?_); go_simp; (with_reducible refine (hO.out _ _ _ R8.out R9.out).mono ?_); rintro e' w7 ⟨rfl, hb7⟩; have X2 := hid (X2.out.belowS hb7); have Y := hid (below_chain Y.out hb7); refine hK.out _ _ ?_ (fun hHeld => ?_); (trivial); clear hK K; (try simp only [Act.put, List.setIfInBounds_toArray, List.set_cons_zero, List.set_cons_succ])
      refine reg_only 3 rfl (by kernel_rfl) (fun K hK => ?_); refine step_str rfl 23 _ _ rfl w.heap.size _ rfl rfl _ _ X2.out h8z zeroD_size h8o.out ?_; intro wx hBx hgx hy; clear hy; refine hK.out _ _ ?_ (fun hHeld => ?_); (trivial); clear hK K; (try simp only [Act.put, List.setIfInBounds_toArray, List.set_cons_zero, List.set_cons_succ])
      refine wpAnyH_done (by kernel_rfl) ?_ _
      have hbf := below_set Y.out hgx (Nat.le_refl _)
      have hres := results_c (P := Tryd.prog) (fn := Tryd.f29) (p := 2) rfl
      go_wp2
      exact bodyPost_ret (hres _ _ w.heap.size _ _ rfl hBx Tryd.underlying23 rfl h8S) rfl ⟨rfl, hbf⟩

set_option maxRecDepth 100000 in
set_option maxHeartbeats 2000000 in
theorem ofR_nil (P : Option Addr) (pc : Nat) (w : World) : Calls Tryd.prog 29 #[.slice P 0 pc] w (GivesD w (digOf 0 [])) := by
  have hO := hid (fun W => refNone_any W)
  have hd := digOf_len 0 []
  have hz := digZ _ hd
  have hS := digS _ hd
  have ho := hid (oneBv' (digOf 0 []))
  unfold GivesD at hO
  unfold GivesD
  go_enter Tryd.func29, Tryd.ntmps29
  go_wp2_with (first
    | ((with_reducible refine at_alloc (d := some 2) 23 ?_); refine wpList_al rfl 23 rfl zeroD (zeroD_run _) ?_; intro w1 hB1 hb1 hy; clear hy)
    | ((with_reducible refine (hO.out _).mono ?_); rintro e w2 ⟨rfl, hb2⟩)
    | (refine wpList_str rfl 23 _ _ rfl w.heap.size _ rfl rfl _ zeroD (hB1.belowS hb2) hz zeroD_size ho.out ?_; intro w3 hB3 hg3 hy; clear hy))
  have hbf := below_set (below_chain hb1 hb2) hg3 (Nat.le_refl _)
  have hres := results_c (P := Tryd.prog) (fn := Tryd.f29) (p := 2) rfl
  exact bodyPost_ret (hres _ _ w.heap.size _ _ rfl hB3 Tryd.underlying23 rfl hS) rfl ⟨rfl, hbf⟩

set_option maxRecDepth 100000 in
set_option maxHeartbeats 2000000 in
theorem ofR_one (P : Option Addr) (pc : Nat) (p : List UInt8) (w : World) (hP : Parts w P 1 [p]) (hp : p.length ≤ 5000) : Calls Tryd.prog 29 #[.slice P 1 pc] w (GivesD w (digOf 7 [p])) := by
  have HP := hid hP
  obtain ⟨b, o, A, n, c, q, rfl, hbl, hcell, hq, hqm, hql, hr⟩ := hP.at_ (k := 0) (by omega)
  have hqp : q = p := hq.symm
  subst hqp
  have HR := hid hr
  have hcw := hid (fun W (h : Below w.heap.size w W) => (World.cell?_of_block (a := ⟨b, o + 0, none⟩) (h.block b hbl)).trans hcell)
  have hO := hid (fun W (h : Rd W 0 1 A n (q.map bv)) => refOneS_any A n c q W h (by omega))
  have hd := digOf_len 7 [q]
  have hz := digZ _ hd
  have hS := digS _ hd
  have ho := hid (oneBv' (digOf 7 [q]))
  unfold GivesD at hO
  unfold GivesD
  rw [Nat.add_zero] at hcell hcw
  clear hP hq hqm hr
  have o0 : o * 1 = o := Nat.mul_one o
  go_enter Tryd.func29, Tryd.ntmps29
  go_wp2_with (first
    | ((with_reducible refine at_alloc (d := some 2) 23 ?_); refine wpList_al rfl 23 rfl zeroD (zeroD_run _) ?_; intro w1 hB1 hb1 hy; clear hy; clear hcell; have hcell := hcw.out w1 hb1)
    | ((with_reducible refine (hO.out _ (HR.out.below hb1)).mono ?_); rintro e w2 ⟨rfl, hb2⟩)
    | (refine wpList_str rfl 23 _ _ rfl w.heap.size _ rfl rfl _ zeroD (hB1.belowS hb2) hz zeroD_size ho.out ?_; intro w3 hB3 hg3 hy; clear hy))
  have hbf := below_set (below_chain hb1 hb2) hg3 (Nat.le_refl _)
  have hres := results_c (P := Tryd.prog) (fn := Tryd.f29) (p := 2) rfl
  exact bodyPost_ret (hres _ _ w.heap.size _ _ rfl hB3 Tryd.underlying23 rfl hS) rfl ⟨rfl, hbf⟩

theorem ofR_any : ∀ (N : Nat) (P : Option Addr) (np pc : Nat) (pss : List (List UInt8)) (w : World), np ≤ N → Parts w P np pss → np ≤ pc → np ≤ 512 → (∀ p ∈ pss, p.length ≤ 5000) → Calls Tryd.prog 29 #[.slice P np pc] w (GivesD w (rootT pss))
  | N, P, np, pc, pss, w, hN, hP, hpc, h512, hl => by
    have hle := hP.1
    match np, hN, hP, hpc, h512, hle with
    | 0, hN, hP, hpc, h512, hle =>
      obtain rfl : pss = [] := List.eq_nil_of_length_eq_zero hle
      rw [rootT_nil]
      exact ofR_nil P pc w
    | 1, hN, hP, hpc, h512, hle =>
      obtain ⟨p, rfl⟩ := List.length_eq_one_iff.1 hle
      rw [rootT_one]
      exact ofR_one P pc p w hP (hl p (by simp))
    | k + 2, hN, hP, hpc, h512, hle =>
      obtain ⟨b, o, _, _, _, _, rfl, _⟩ := hP.at_ (k := 0) (by omega)
      have hfb := frontN_bounds (n := k + 2) (by omega)
      rw [rootT_two (by omega), hle]
      match N, hN with
      | 0, hN => omega
      | N + 1, hN =>
        exact ofR_two b o (k + 2) pc (frontN (k + 2)) pss w rfl (by omega) h512 hpc hP _ _ (rootT_len _) (rootT_len _)
          (fun W h1 => ofR_any N _ _ pc _ W (by omega) (parts_take h1 (by omega)) (by omega) (by omega) (fun p hp => hl p (List.mem_of_mem_take hp)))
          (fun W h1 => ofR_any N _ _ (pc - frontN (k + 2)) _ W (by omega) (parts_drop h1) (by omega) (by omega) (fun p hp => hl p (List.mem_of_mem_drop hp)))

set_option maxRecDepth 100000 in
set_option maxHeartbeats 2000000 in
theorem rootR_any (P : Option Addr) (np pc : Nat) (pss : List (List UInt8)) (w : World) (hP : Parts w P np pss) (hpc : np ≤ pc) : Calls Tryd.prog 15 #[.slice P np pc] w (GivesDE w (rootE pss)) := by
  have HP := hid hP
  have hLi := hid (fun W (h : Parts W P np pss) => may13_any P np pc pss W h _ rfl)
  have hle := hP.1
  unfold rootE
  cases hb : listB pss with
  | false =>
    rw [hb] at hLi
    rw [if_neg (by simp)]
    clear hP hb
    go_enter Tryd.func15, Tryd.ntmps15
    go_wp2_with (first
      | ((with_reducible refine at_alloc (d := some 2) 23 ?_); refine wpList_al rfl 23 rfl zeroD (zeroD_run _) ?_; intro w1 hB1 hb1 hy; clear hy)
      | ((with_reducible refine (hLi.out _ (HP.out.below hb1)).mono ?_); rintro e w2 ⟨rfl, hv⟩; subst hv)
      | ((with_reducible refine at_build 23 ?_); refine wpList_bd rfl 23 rfl _ (zeroD_built _) ?_)
      | (refine wpList_str rfl 23 _ _ rfl w.heap.size zeroD rfl rfl _ zeroD hB1 rfl zeroD_size zeroD_one ?_; intro w3 hB3 hg3 hy; clear hy))
    have hbf := below_set hb1 hg3 (Nat.le_refl _)
    have hres := results_cs (P := Tryd.prog) (fn := Tryd.f15) (p := 2) (t := 3) rfl
    exact bodyPost_ret (hres _ _ w.heap.size _ _ rfl hB3 Tryd.underlying23 rfl zeroD_size) rfl ⟨rfl, hbf⟩
  | true =>
    rw [hb] at hLi
    rw [if_pos rfl]
    obtain ⟨h1, h2⟩ := listB_parts hb
    have hRo := hid (fun W (h : Parts W P np pss) => ofR_any np P np pc pss W (Nat.le_refl _) h hpc (by omega) (fun p hp => by have := h2 p hp; omega))
    have hd := rootT_len pss
    have hz := digZ _ hd
    have hS := digS _ hd
    have ho := hid (oneBv' (rootT pss))
    unfold GivesD at hRo
    unfold GivesDE
    generalize rootT pss = r at *
    clear hP hb h1 h2 hle
    go_enter Tryd.func15, Tryd.ntmps15
    go_wp2_with (first
      | ((with_reducible refine at_alloc (d := some 2) 23 ?_); refine wpList_al rfl 23 rfl zeroD (zeroD_run _) ?_; intro w1 hB1 hb1 hy; clear hy)
      | ((with_reducible refine (hLi.out _ (HP.out.below hb1)).mono ?_); rintro e w2 ⟨rfl, hv⟩; subst hv)
      | ((with_reducible refine (hRo.out _ (HP.out.below hb1)).mono ?_); rintro e w4 ⟨rfl, hb4⟩)
      | (refine wpList_str rfl 23 _ _ rfl w.heap.size _ rfl rfl _ zeroD (hB1.belowS hb4) hz zeroD_size ho.out ?_; intro w3 hB3 hg3 hy; clear hy))
    have hbf := below_set (below_chain hb1 hb4) hg3 (Nat.le_refl _)
    have hres := results_cs (P := Tryd.prog) (fn := Tryd.f15) (p := 2) (t := 3) rfl
    exact bodyPost_ret (hres _ _ w.heap.size _ _ rfl hB3 Tryd.underlying23 rfl hS) rfl ⟨rfl, hbf⟩
end Go.Proofs.YtheljogmnalbmaaDoor
