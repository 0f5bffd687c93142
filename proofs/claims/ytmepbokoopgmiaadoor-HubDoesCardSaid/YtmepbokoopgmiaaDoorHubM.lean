/-
  Contracts of the law's two and alive, and of HubNames. The gap stands in its variable.
-/
import Derived.Test.YtmepbokoopgmiaaDoorHubJ
import Derived.Test.YtmepbokoopgmiaaDoorHubL
namespace Go.Proofs.YtmepbokoopgmiaaDoor
open Go.RowKit
set_option linter.unusedSimpArgs false
set_option linter.unusedVariables false

def PH (W : World) (H : Hub) (e : Ending) (w' : World) : Prop := ∃ D m c, e = .returned (.agg #[.int .i64 H.1, .slice D m c]) ∧ HubOn w' W.heap.size H D m c ∧ Below W.heap.size W w'
def PJ (W : World) (H : Hub) (i er : Int) (e : Ending) (w' : World) : Prop := ∃ D m c, e = .returned (.tuple #[.agg #[.int .i64 H.1, .slice D m c], .int .i64 i, .int .i64 er]) ∧ HubOn w' W.heap.size H D m c ∧ Below W.heap.size W w'
def PL (W : World) (H : Hub) (er : Int) (e : Ending) (w' : World) : Prop := ∃ D m c, e = .returned (.tuple #[.agg #[.int .i64 H.1, .slice D m c], .int .i64 er]) ∧ HubOn w' W.heap.size H D m c ∧ Below W.heap.size W w'
def PP (W : World) (H : Hub) (X : Array Value) (er : Int) (e : Ending) (w' : World) : Prop := ∃ D m c, e = .returned (.tuple #[.agg #[.int .i64 H.1, .slice D m c], .agg X, .int .i64 er]) ∧ HubOn w' W.heap.size H D m c ∧ Below W.heap.size W w'
theorem join_p {h H : Hub} {most fr i er : Int} (hr : joinT h most fr = (H, i, er)) (D : Option Addr) (m c : Nat) (W : World) (hh : HubIn W h D m) (hG : GOk W) :
    Calls Tryd.prog 11 #[.agg #[.int .i64 h.1, .slice D m c], .int .i64 most, .int .i64 fr] W (PJ W H i er) := join_lit _ hr D m c W hh hG
theorem join_z {H : Hub} {most fr i er : Int} (hr : joinT zeroHub most fr = (H, i, er)) (W : World) (hG : GOk W) :
    Calls Tryd.prog 11 #[.agg #[.int .i64 0, .slice none 0 0], .int .i64 most, .int .i64 fr] W (PJ W H i er) := join_lit _ hr none 0 0 W (HubIn.nil W) hG
theorem leave_p {h H : Hub} {id er : Int} (hr : leaveT h id = (H, er)) (D : Option Addr) (m c : Nat) (W : World) (hh : HubIn W h D m) (hG : GOk W) :
    Calls Tryd.prog 10 #[.agg #[.int .i64 h.1, .slice D m c], .int .i64 id] W (PL W H er) := leave_lit _ hr D m c W hh hG
theorem tell_p {h H : Hub} {room er : Int} {ev : Ev} (hev : HdOk ev.2.2) (hr : tellT h room ev = (H, er)) (D : Option Addr) (m c : Nat) (W : World) (hh : HubIn W h D m) (hG : GOk W) :
    Calls Tryd.prog 7 #[.agg #[.int .i64 h.1, .slice D m c], .int .i64 room, .agg (evL ev).toArray] W (PL W H er) := tell_lit hev _ hr D m c W hh hG
theorem poll_p {h H : Hub} {id er : Int} {x : It} (hr : pollHT h id = (H, x, er)) (D : Option Addr) (m c : Nat) (W : World) (hh : HubIn W h D m) (hG : GOk W) :
    Calls Tryd.prog 9 #[.agg #[.int .i64 h.1, .slice D m c], .int .i64 id] W (PP W H (itL x).toArray er) := poll_litH _ hr D m c W hh hG
section
variable {P : Program}
theorem wpList_b1_g {ops : Array Oper} {rest : List Oper} {o : Oper} {a : Act} {w : World} {Q : Exit → Act → World → Prop} (hgd : Region.wanted o (yielded ops a.tmps) = true) (t : TypeId) (i : Nat) (y : Operand) (ho : o.op = .build t #[(i, y)]) (v : Value) (hy : a.eval y = v) (cells : Array Value) (hx : (Instr.build t #[(i, v)]).run P w = .ok (.agg cells) w)
    (h : wpList P ops Q rest (a.put o.dst (.agg cells)) w) : wpList P ops Q (o :: rest) a w := by
  subst hy
  refine wpList_step fun K hK => ?_
  rw [if_pos hgd]
  unfold Oper.wp execOp
  simp only [ho, List.map_toArray, List.map_cons, List.map_nil, Sem.run_bind, Sem.run_pure, Result.andThen_ok, hx]
  exact hK _ _ h
end
def twoT : Hub := (2, [(0, 3, [], false), (1, 3, [], false)])
def evNL (n : Int) : Array Value := (evL (evN n)).toArray

set_option maxRecDepth 100000 in
set_option maxHeartbeats 4000000 in
theorem two_any (w : World) (hG : GOk w) : Calls Tryd.prog 8 #[] w (PH w twoT) := by
  obtain ⟨H1, e1, e2⟩ : ∃ H1, joinT zeroHub 4 3 = (H1, 0, 0) ∧ joinT H1 4 3 = (twoT, 1, 0) := ⟨(joinT zeroHub 4 3).1, by kernel_rfl, by kernel_rfl⟩
  have hJ1 := hid (fun W k => join_z e1 W k)
  have hJ2 := hid (fun D m c W h k => join_p e2 D m c W h k)
  clear e1 e2
  generalize twoT = T2 at *
  have HG0 := hid hG
  clear hG
  go_enter Tryd.func8, Tryd.ntmps8
  go_wp2_with (first
    | ((with_reducible refine at_alloc (d := some 0) 24 ?_); refine wpList_al rfl 24 rfl _ (hub_zero _) ?_; intro w1 hB1 hb1 hy; clear hy; have X0 := hid hb1; have X1 := hid hB1)
    | ((with_reducible refine at_build 24 ?_); refine wpList_bd rfl 24 rfl _ (hub_built _) ?_)
    | ((with_reducible refine (hJ1.out _ (HG0.out.below X0.out)).mono ?_); rintro e v1 ⟨D1, m1, c1, rfl, hR1, hb1⟩)
    | ((with_reducible refine at_alloc (d := some 1) 24 ?_); refine wpList_al rfl 24 rfl _ (hub_zero _) ?_; intro v2 hB2 hb2 hy; clear hy)
    | ((with_reducible refine at_store 24 ?_); refine wpList_str rfl 24 _ _ rfl v1.heap.size _ rfl rfl _ _ hB2 rfl (hub_size _ _) (one_hub _ _ _ _) ?_; intro v3 hB3 hg3 hy; clear hy; have hq := hb2.grown hg3 hb2.size (by intro k e; cases e; exact Nat.le_refl _); have Y := hid (below_chain (below_chain X0.out hb1) hq); have Y1 := hid ((X1.out.belowS hb1).belowS hq); have hR3 := hR1.in_.below hq; obtain ⟨a0, a1, a2, a3⟩ := two_facts hB3)
    | ((with_reducible refine (hJ2.out _ _ _ _ hR3 (HG0.out.below Y.out)).mono ?_); rintro e v4 ⟨D2, m2, c2, rfl, hR4, hb4⟩; clear a0 a1 a2 a3; obtain ⟨a0, a1, a2, a3⟩ := two_facts (hB3.belowS hb4); obtain ⟨b0, b1, b2, b3⟩ := two_facts (Y1.out.belowS hb4); have ne1 : w.heap.size < v1.heap.size := (by have := X1.out.lt; have := hb1.size; omega)))
  have hB4 := hB3.belowS hb4
  have hC1 := chg_both v4 v1.heap.size (.int .i64 T2.1) (.slice D2 m2 c2)
  have B := (hC1.blk (Y1.out.belowS hb4) (by omega)).both (c := .int .i64 T2.1) (d := .slice D2 m2 c2)
  have hC2 := chg_both ((v4.setCell ⟨v1.heap.size, 0, none⟩ (.int .i64 T2.1)).setCell ⟨v1.heap.size, 1, none⟩ (.slice D2 m2 c2)) w.heap.size (.int .i64 T2.1) (.slice D2 m2 c2)
  have l3 := hB3.lt
  have hbf := below_of_chg (below_of_chg (below_chain Y.out hb4) hC1 (fun b e => by omega)) hC2 (fun b e => by omega)
  have hRf := ((hR4.chg hC1 (fun b hb e => by omega)).chg hC2 (fun b hb e => by omega)).low (lo' := w.heap.size) (by omega)
  generalize (((v4.setCell ⟨v1.heap.size, 0, none⟩ (.int .i64 T2.1)).setCell ⟨v1.heap.size, 1, none⟩ (.slice D2 m2 c2)).setCell ⟨w.heap.size, 0, none⟩ (.int .i64 T2.1)).setCell ⟨w.heap.size, 1, none⟩ (.slice D2 m2 c2) = wf at *
  obtain ⟨g0, g1, _, _⟩ := two_facts B
  exact bodyPost_ret (v := .agg #[.int .i64 T2.1, .slice D2 m2 c2]) (by simp [results, Tryd.f8, go_sem, g0, g1]) rfl ⟨D2, m2, c2, rfl, hRf, hbf⟩

theorem evNL_built (n : Int) (w : World) : (Instr.build 34 #[(0, .int .i64 n)]).run Tryd.prog w = .ok (.agg (evNL n)) w := evN_built n w
theorem item_sz {x : It} (ho : ItOk x) : (itL x).toArray.size = (itL zeroIt).toArray.size := by rw [List.size_toArray, List.size_toArray, itL_len x ho, itL_len zeroIt zeroIt_ok]

set_option maxRecDepth 100000 in
set_option maxHeartbeats 8000000 in
theorem alive_any (w : World) (hG : GOk w) : Calls Tryd.prog 12 #[] w (GivesB w true) := by
  obtain ⟨H1, H2, H3, H4, H5, X5, e1, e2, e3, e4, e5⟩ : ∃ H1 H2 H3 H4 H5 X5, joinT zeroHub 4 3 = (H1, 0, 0) ∧ joinT H1 4 3 = (H2, 1, 0) ∧ tellT twoT 2 (evN 4) = (H3, 0) ∧ pollHT H3 0 = (H4, (false, evN 4), 0) ∧ pollHT H4 0 = (H5, X5, 6) :=
    ⟨(joinT zeroHub 4 3).1, (joinT (joinT zeroHub 4 3).1 4 3).1, (tellT twoT 2 (evN 4)).1, (pollHT (tellT twoT 2 (evN 4)).1 0).1, (pollHT (pollHT (tellT twoT 2 (evN 4)).1 0).1 0).1, (pollHT (pollHT (tellT twoT 2 (evN 4)).1 0).1 0).2.1, by kernel_rfl, by kernel_rfl, by kernel_rfl, by kernel_rfl, by kernel_rfl⟩
  have h2 := hid (fun W k => two_any W k)
  have hJ1 := hid (fun W k => join_z e1 W k)
  have hJ2 := hid (fun D m c W h k => join_p e2 D m c W h k)
  have hT3 := hid (fun D m c W h k => tell_p (evN_ok 4) e3 D m c W h k)
  have hP4 := hid (fun D m c W h k => poll_p e4 D m c W h k)
  have hP5 := hid (fun D m c W h k => poll_p e5 D m c W h k)
  have ox4 : ItOk (false, evN 4) := evN_ok 4
  have ox5 : ItOk X5 := by
    have h3 : ItsOk ((false, evN 4) :: []) := fun x hx => by simp at hx; subst hx; exact ox4
    have : X5 = zeroIt := by
      have h4 : pollHT (pollHT (tellT twoT 2 (evN 4)).1 0).1 0 = (zeroHub, zeroIt, 6) := by kernel_rfl
      rw [e3] at h4
      simp only at h4
      rw [e4] at h4
      simp only at h4
      rw [e5] at h4
      exact (Prod.mk.inj (Prod.mk.inj h4).2).1
    rw [this]
    exact zeroIt_ok
  have hs4 := item_sz ox4
  have hs5 := item_sz ox5
  have hI4 := it_sizeA _ ox4
  have hsZ := it_sizeA zeroIt zeroIt_ok
  have ho4 := hid (it_one (false, evN 4))
  have ho5 := hid (it_one X5)
  have hzr : Hid (∀ W, (zeroValue 36).run Tryd.prog W = .ok (.agg (itL zeroIt).toArray) W) := hid zeroI_run
  have hEB := hid (evNL_built 4)
  have hIB := hid (fun W => (show (Instr.build 36 #[(1, .agg (evNL 4))]).run Tryd.prog W = .ok (.agg (itL (false, evN 4)).toArray) W from item_built (evN 4) (evN_ok 4) W))
  have HE : ∀ W, (Op.equalIn 10000 36 (.agg (itL (false, evN 4)).toArray) (.agg (itL (false, evN 4)).toArray)).run Tryd.prog W = .ok true W := fun W => by
    have := run_eq_it 9995 (false, evN 4) (false, evN 4) ox4 ox4 W
    rw [this]
    rfl
  change Hid (∀ D m c W, HubIn W twoT D m → GOk W → Calls _ _ #[_, _, .agg (evNL 4)] W _) at hT3
  clear e1 e2 e3 e4 e5 ox4 ox5
  have HG0 := hid hG
  clear hG
  generalize hZL : (itL zeroIt).toArray = Z at *
  clear hZL
  generalize hX4 : (itL (false, evN 4)).toArray = XA at *
  clear hX4
  generalize hX5 : (itL X5).toArray = XB at *
  clear hX5
  generalize evNL 4 = EV4 at *
  generalize twoT = T2 at *
  go_enter Tryd.func12, Tryd.ntmps12
  go_upto_region 2 with (first
    | ((with_reducible refine at_build 24 ?_); refine wpList_bd rfl 24 rfl _ (hub_built _) ?_)
    | ((with_reducible refine (hJ1.out _ (HG0.out)).mono ?_); rintro e v1 ⟨D1, m1, c1, rfl, hR1', hb1⟩; have hR1 := hR1'.in_)
    | ((with_reducible refine at_alloc (d := some 1) 24 ?_); refine wpList_al rfl 24 rfl _ (hub_zero _) ?_; intro v2 hB2 hb2 hy; clear hy)
    | ((with_reducible refine at_store 24 ?_); refine wpList_str rfl 24 _ _ rfl v1.heap.size _ rfl rfl _ _ hB2 rfl (hub_size _ _) (one_hub _ _ _ _) ?_; intro v4 hB4 hg4 hy; clear hy))
  have hq : Below v1.heap.size v1 v4 := hb2.grown hg4 hb2.size (by intro k e; cases e; exact Nat.le_refl _)
  have X1 := hid hB4
  have R1 := hid (hR1.below hq)
  have hall := below_chain hb1 hq
  have Y := hid hall
  clear hb1 hR1' hR1 hB2 hb2 hB4 hg4 hq hall
  generalize v1.heap.size = g1 at *
  generalize v4 = w1 at *
  obtain ⟨a0, a1, a2, a3⟩ := two_facts X1.out
  go_upto_region 3 with (first
    | ((with_reducible refine (hJ2.out _ _ _ _ R1.out (HG0.out.below Y.out)).mono ?_); rintro e v1 ⟨D2, m2, c2, rfl, hR1', hb1⟩; have hR1 := hR1'.in_)
    | ((with_reducible refine at_alloc (d := some 4) 24 ?_); refine wpList_al rfl 24 rfl _ (hub_zero _) ?_; intro v2 hB2 hb2 hy; clear hy)
    | ((with_reducible refine at_store 24 ?_); refine wpList_str rfl 24 _ _ rfl v1.heap.size _ rfl rfl _ _ hB2 rfl (hub_size _ _) (one_hub _ _ _ _) ?_; intro v4 hB4 hg4 hy; clear hy))
  have hq : Below v1.heap.size v1 v4 := hb2.grown hg4 hb2.size (by intro k e; cases e; exact Nat.le_refl _)
  have X2 := hid hB4
  have R2 := hid (hR1.below hq)
  have hall := below_chain hb1 hq
  have Y := hid (below_chain Y.out hall)
  have X1 := hid (X1.out.belowS hall)
  have R1 := hid (R1.out.below hall)
  clear hb1 hR1' hR1 hB2 hb2 hB4 hg4 hq hall a0 a1 a2 a3
  generalize v1.heap.size = g2 at *
  generalize v4 = w2 at *
  clear X1 R1
  clear X2 R2
  go_upto_region 4 with (first
    | ((with_reducible refine (h2.out _ (HG0.out.below Y.out)).mono ?_); rintro e v0 ⟨D0, m0, c0, rfl, hR0', hb0⟩; have hR0 := hR0'.in_)
    | ((with_reducible refine at_build 34 ?_); refine wpList_b1 rfl 34 0 _ rfl (.int .i64 4) rfl _ (hEB.out _) ?_)
    | ((with_reducible refine (hT3.out _ _ _ _ hR0 ((HG0.out.below Y.out).below hb0)).mono ?_); rintro e v1 ⟨D3, m3, c3, rfl, hR1', hb1⟩; have hR1 := hR1'.in_)
    | ((with_reducible refine at_alloc (d := some 7) 24 ?_); refine wpList_al rfl 24 rfl _ (hub_zero _) ?_; intro v2 hB2 hb2 hy; clear hy)
    | ((with_reducible refine at_store 24 ?_); refine wpList_str rfl 24 _ _ rfl v1.heap.size _ rfl rfl _ _ hB2 rfl (hub_size _ _) (one_hub _ _ _ _) ?_; intro v4 hB4 hg4 hy; clear hy))
  have hq : Below v1.heap.size v1 v4 := hb2.grown hg4 hb2.size (by intro k e; cases e; exact Nat.le_refl _)
  have X3 := hid hB4
  have R3 := hid (hR1.below hq)
  have hall := below_chain (below_chain hb0 hb1) hq
  have Y := hid (below_chain Y.out hall)
  clear hb1 hR1' hR1 hB2 hb2 hB4 hg4 hq hall hR0' hR0 hb0
  generalize v1.heap.size = g3 at *
  generalize v4 = w3 at *
  obtain ⟨a0, a1, a2, a3⟩ := two_facts X3.out
  go_upto_region 5 with (first
    | ((with_reducible refine (hP4.out _ _ _ _ R3.out (HG0.out.below Y.out)).mono ?_); rintro e v1 ⟨D4, m4, c4, rfl, hR1', hb1⟩; have hR1 := hR1'.in_)
    | ((with_reducible refine at_alloc (d := some 9) 24 ?_); refine wpList_al rfl 24 rfl _ (hub_zero _) ?_; intro v2 hB2 hb2 hy; clear hy)
    | ((with_reducible refine at_alloc (d := some 10) 36 ?_); refine wpList_al rfl 36 rfl _ (hzr.out _) ?_; intro v3 hB3 hb3 hy; clear hy; have l23 := hB2.lt)
    | ((with_reducible refine at_store 24 ?_); refine wpList_str rfl 24 _ _ rfl v1.heap.size _ rfl rfl _ _ (hB2.belowS hb3) rfl (hub_size _ _) (one_hub _ _ _ _) ?_; intro v4 hB4 hg4 hy; clear hy)
    | ((with_reducible refine at_store 36 ?_); refine wpList_str rfl 36 _ _ rfl v2.heap.size XA rfl rfl _ _ (hB3.grown hg4 (fun e => by have := Option.some.inj e; omega)) hs4 hsZ ho4.out ?_; intro v5 hB5 hg5 hy; clear hy))
  have hq2 := below_chain hb2 hb3
  have hq4 : Below v1.heap.size v1 v4 := hq2.grown hg4 hq2.size (by intro k e; cases e; exact Nat.le_refl _)
  have hq : Below v1.heap.size v1 v5 := hq4.grown hg5 hq4.size (by intro k e; cases e; exact hb2.size)
  have X4 := hid (hB4.grown hg5 (fun e => by have := Option.some.inj e; omega))
  have Z4 := hid hB5
  have R4 := hid (hR1.below hq)
  have hall := below_chain hb1 hq
  have Y := hid (below_chain Y.out hall)
  have X3 := hid (X3.out.belowS hall)
  have R3 := hid (R3.out.below hall)
  clear hb1 hR1' hR1 hB2 hb2 hB4 hg4 hq hall hB3 hb3 l23 hq2 hq4 hB5 hg5 a0 a1 a2 a3
  generalize v1.heap.size = g4 at *
  generalize v2.heap.size = gi4 at *
  generalize v5 = w4 at *
  clear X3 R3
  obtain ⟨a0, a1, a2, a3⟩ := two_facts X4.out
  go_upto_region 6 with (first
    | ((with_reducible refine (hP5.out _ _ _ _ R4.out (HG0.out.below Y.out)).mono ?_); rintro e v1 ⟨D5, m5, c5, rfl, hR1', hb1⟩; have hR1 := hR1'.in_)
    | ((with_reducible refine at_alloc (d := some 12) 24 ?_); refine wpList_al rfl 24 rfl _ (hub_zero _) ?_; intro v2 hB2 hb2 hy; clear hy)
    | ((with_reducible refine at_alloc (d := some 13) 36 ?_); refine wpList_al rfl 36 rfl _ (hzr.out _) ?_; intro v3 hB3 hb3 hy; clear hy; have l23 := hB2.lt)
    | ((with_reducible refine at_store 24 ?_); refine wpList_str rfl 24 _ _ rfl v1.heap.size _ rfl rfl _ _ (hB2.belowS hb3) rfl (hub_size _ _) (one_hub _ _ _ _) ?_; intro v4 hB4 hg4 hy; clear hy)
    | ((with_reducible refine at_store 36 ?_); refine wpList_str rfl 36 _ _ rfl v2.heap.size XB rfl rfl _ _ (hB3.grown hg4 (fun e => by have := Option.some.inj e; omega)) hs5 hsZ ho5.out ?_; intro v5 hB5 hg5 hy; clear hy))
  have hq2 := below_chain hb2 hb3
  have hq4 : Below v1.heap.size v1 v4 := hq2.grown hg4 hq2.size (by intro k e; cases e; exact Nat.le_refl _)
  have hq : Below v1.heap.size v1 v5 := hq4.grown hg5 hq4.size (by intro k e; cases e; exact hb2.size)
  have X5 := hid (hB4.grown hg5 (fun e => by have := Option.some.inj e; omega))
  have Z5 := hid hB5
  have R5 := hid (hR1.below hq)
  have hall := below_chain hb1 hq
  have Y := hid (below_chain Y.out hall)
  have X4 := hid (X4.out.belowS hall)
  have R4 := hid (R4.out.below hall)
  have Z4 := hid (Z4.out.belowS hall)
  clear hb1 hR1' hR1 hB2 hb2 hB4 hg4 hq hall hB3 hb3 l23 hq2 hq4 hB5 hg5 a0 a1 a2 a3
  generalize v1.heap.size = g5 at *
  generalize v2.heap.size = gi5 at *
  generalize v5 = w5 at *
  go_wp2_with (first
    | ((with_reducible refine at_load 36 ?_); refine wpList_ldr_g (by kernel_rfl) 36 _ rfl gi4 rfl _ XA _ Z4.out Tryd.underlying36 rfl hI4 ?_)
    | ((with_reducible refine at_build 34 ?_); refine wpList_b1_g (by kernel_rfl) 34 0 _ rfl (.int .i64 4) rfl _ (hEB.out _) ?_)
    | ((with_reducible refine at_build 36 ?_); refine wpList_b1_g (by kernel_rfl) 36 1 _ rfl (.agg EV4) rfl _ (hIB.out _) ?_))
  go_ret
  exact ⟨rfl, Y.out⟩

set_option maxRecDepth 100000 in
set_option maxHeartbeats 8000000 in
theorem names_any (w : World) (hG : GOk w) : Calls Tryd.prog 3 #[] w (GivesB w true) := by
  obtain ⟨H1, H2, H3, H4, H5, H6, X2, X4, e1, e2, e3, e4, e5, e6, ox2, ox4⟩ : ∃ H1 H2 H3 H4 H5 H6 X2 X4, tellT twoT 2 (evN 3) = (H1, 0) ∧ pollHT H1 0 = (H2, X2, 6) ∧ leaveT twoT 0 = (H3, 0) ∧ pollHT H3 0 = (H4, X4, 2) ∧ joinT H3 4 3 = (H5, 2, 0) ∧ joinT twoT 2 3 = (H6, 0, 9) ∧ X2 = zeroIt ∧ X4 = zeroIt :=
    ⟨(tellT twoT 2 (evN 3)).1, (pollHT (tellT twoT 2 (evN 3)).1 0).1, (leaveT twoT 0).1, (pollHT (leaveT twoT 0).1 0).1, (joinT (leaveT twoT 0).1 4 3).1, (joinT twoT 2 3).1, (pollHT (tellT twoT 2 (evN 3)).1 0).2.1, (pollHT (leaveT twoT 0).1 0).2.1, by kernel_rfl, by kernel_rfl, by kernel_rfl, by kernel_rfl, by kernel_rfl, by kernel_rfl, by kernel_rfl, by kernel_rfl⟩
  subst ox2
  subst ox4
  have h2 := hid (fun W k => two_any W k)
  have hA := hid (fun W k => alive_any W k)
  have hT1 := hid (fun D m c W h k => tell_p (evN_ok 3) e1 D m c W h k)
  have hP2 := hid (fun D m c W h k => poll_p e2 D m c W h k)
  have hL3 := hid (fun D m c W h k => leave_p e3 D m c W h k)
  have hP4 := hid (fun D m c W h k => poll_p e4 D m c W h k)
  have hJ5 := hid (fun D m c W h k => join_p e5 D m c W h k)
  have hJ6 := hid (fun D m c W h k => join_p e6 D m c W h k)
  have hC7 := hid (fun W => hcheck_num (-1) none 0 0 W (by decide))
  have hHB := hid (fun W => (show (Instr.build 24 #[(0, .int .i64 (-1))]).run Tryd.prog W = .ok (.agg #[.int .i64 (-1), .slice none 0 0]) W from run_build W _ _ _ (by kernel_rfl)))
  have hsZ := it_sizeA zeroIt zeroIt_ok
  have hoZ := hid (it_one zeroIt)
  have hzr : Hid (∀ W, (zeroValue 36).run Tryd.prog W = .ok (.agg (itL zeroIt).toArray) W) := hid zeroI_run
  have hEB := hid (evNL_built 3)
  change Hid (∀ D m c W, HubIn W twoT D m → GOk W → Calls _ _ #[_, _, .agg (evNL 3)] W _) at hT1
  clear e1 e2 e3 e4 e5 e6
  have HG0 := hid hG
  clear hG
  generalize hZL : (itL zeroIt).toArray = Z at *
  clear hZL
  have hZZ : Z.size = Z.size := rfl
  generalize evNL 3 = EV3 at *
  generalize twoT = T2 at *
  go_enter Tryd.func3, Tryd.ntmps3
  go_upto_region 2 with (first
    | ((with_reducible refine (h2.out _ (HG0.out)).mono ?_); rintro e v0 ⟨D0, m0, c0, rfl, hR0', hb0⟩; have hR0 := hR0'.in_)
    | ((with_reducible refine at_build 34 ?_); refine wpList_b1 rfl 34 0 _ rfl (.int .i64 3) rfl _ (hEB.out _) ?_)
    | ((with_reducible refine (hT1.out _ _ _ _ hR0 (HG0.out.below hb0)).mono ?_); rintro e v1 ⟨D1, m1, c1, rfl, hR1', hb1⟩; have hR1 := hR1'.in_)
    | ((with_reducible refine at_alloc (d := some 1) 24 ?_); refine wpList_al rfl 24 rfl _ (hub_zero _) ?_; intro v2 hB2 hb2 hy; clear hy)
    | ((with_reducible refine at_store 24 ?_); refine wpList_str rfl 24 _ _ rfl v1.heap.size _ rfl rfl _ _ hB2 rfl (hub_size _ _) (one_hub _ _ _ _) ?_; intro v4 hB4 hg4 hy; clear hy))
  have hq : Below v1.heap.size v1 v4 := hb2.grown hg4 hb2.size (by intro k e; cases e; exact Nat.le_refl _)
  have X1 := hid hB4
  have R1 := hid (hR1.below hq)
  have hall := below_chain (below_chain hb0 hb1) hq
  have Y := hid hall
  clear hb1 hR1' hR1 hB2 hb2 hB4 hg4 hq hall hR0' hR0 hb0
  generalize v1.heap.size = g1 at *
  generalize v4 = w1 at *
  obtain ⟨a0, a1, a2, a3⟩ := two_facts X1.out
  go_upto_region 3 with (first
    | ((with_reducible refine (hP2.out _ _ _ _ R1.out (HG0.out.below Y.out)).mono ?_); rintro e v1 ⟨D2, m2, c2, rfl, hR1', hb1⟩; have hR1 := hR1'.in_)
    | ((with_reducible refine at_alloc (d := some 3) 24 ?_); refine wpList_al rfl 24 rfl _ (hub_zero _) ?_; intro v2 hB2 hb2 hy; clear hy)
    | ((with_reducible refine at_alloc (d := some 4) 36 ?_); refine wpList_al rfl 36 rfl _ (hzr.out _) ?_; intro v3 hB3 hb3 hy; clear hy; have l23 := hB2.lt)
    | ((with_reducible refine at_store 24 ?_); refine wpList_str rfl 24 _ _ rfl v1.heap.size _ rfl rfl _ _ (hB2.belowS hb3) rfl (hub_size _ _) (one_hub _ _ _ _) ?_; intro v4 hB4 hg4 hy; clear hy)
    | ((with_reducible refine at_store 36 ?_); refine wpList_str rfl 36 _ _ rfl v2.heap.size Z rfl rfl _ _ (hB3.grown hg4 (fun e => by have := Option.some.inj e; omega)) rfl hsZ hoZ.out ?_; intro v5 hB5 hg5 hy; clear hy))
  have hq2 := below_chain hb2 hb3
  have hq4 : Below v1.heap.size v1 v4 := hq2.grown hg4 hq2.size (by intro k e; cases e; exact Nat.le_refl _)
  have hq : Below v1.heap.size v1 v5 := hq4.grown hg5 hq4.size (by intro k e; cases e; exact hb2.size)
  have X2 := hid (hB4.grown hg5 (fun e => by have := Option.some.inj e; omega))
  have Z2 := hid hB5
  have R2 := hid (hR1.below hq)
  have hall := below_chain hb1 hq
  have Y := hid (below_chain Y.out hall)
  have X1 := hid (X1.out.belowS hall)
  have R1 := hid (R1.out.below hall)
  clear hb1 hR1' hR1 hB2 hb2 hB4 hg4 hq hall hB3 hb3 l23 hq2 hq4 hB5 hg5 a0 a1 a2 a3
  generalize v1.heap.size = g2 at *
  generalize v2.heap.size = gi2 at *
  generalize v5 = w2 at *
  clear X1 R1
  clear X2 R2
  clear Z2
  go_upto_region 4 with (first
    | ((with_reducible refine (h2.out _ (HG0.out.below Y.out)).mono ?_); rintro e v0 ⟨D0, m0, c0, rfl, hR0', hb0⟩; have hR0 := hR0'.in_)
    | ((with_reducible refine (hL3.out _ _ _ _ hR0 ((HG0.out.below Y.out).below hb0)).mono ?_); rintro e v1 ⟨D3, m3, c3, rfl, hR1', hb1⟩; have hR1 := hR1'.in_)
    | ((with_reducible refine at_alloc (d := some 6) 24 ?_); refine wpList_al rfl 24 rfl _ (hub_zero _) ?_; intro v2 hB2 hb2 hy; clear hy)
    | ((with_reducible refine at_store 24 ?_); refine wpList_str rfl 24 _ _ rfl v1.heap.size _ rfl rfl _ _ hB2 rfl (hub_size _ _) (one_hub _ _ _ _) ?_; intro v4 hB4 hg4 hy; clear hy))
  have hq : Below v1.heap.size v1 v4 := hb2.grown hg4 hb2.size (by intro k e; cases e; exact Nat.le_refl _)
  have X3 := hid hB4
  have R3 := hid (hR1.below hq)
  have hall := below_chain (below_chain hb0 hb1) hq
  have Y := hid (below_chain Y.out hall)
  clear hb1 hR1' hR1 hB2 hb2 hB4 hg4 hq hall hR0' hR0 hb0
  generalize v1.heap.size = g3 at *
  generalize v4 = w3 at *
  obtain ⟨a0, a1, a2, a3⟩ := two_facts X3.out
  go_upto_region 5 with (first
    | ((with_reducible refine (hP4.out _ _ _ _ R3.out (HG0.out.below Y.out)).mono ?_); rintro e v1 ⟨D4, m4, c4, rfl, hR1', hb1⟩; have hR1 := hR1'.in_)
    | ((with_reducible refine at_alloc (d := some 8) 24 ?_); refine wpList_al rfl 24 rfl _ (hub_zero _) ?_; intro v2 hB2 hb2 hy; clear hy)
    | ((with_reducible refine at_alloc (d := some 9) 36 ?_); refine wpList_al rfl 36 rfl _ (hzr.out _) ?_; intro v3 hB3 hb3 hy; clear hy; have l23 := hB2.lt)
    | ((with_reducible refine at_store 24 ?_); refine wpList_str rfl 24 _ _ rfl v1.heap.size _ rfl rfl _ _ (hB2.belowS hb3) rfl (hub_size _ _) (one_hub _ _ _ _) ?_; intro v4 hB4 hg4 hy; clear hy)
    | ((with_reducible refine at_store 36 ?_); refine wpList_str rfl 36 _ _ rfl v2.heap.size Z rfl rfl _ _ (hB3.grown hg4 (fun e => by have := Option.some.inj e; omega)) rfl hsZ hoZ.out ?_; intro v5 hB5 hg5 hy; clear hy))
  have hq2 := below_chain hb2 hb3
  have hq4 : Below v1.heap.size v1 v4 := hq2.grown hg4 hq2.size (by intro k e; cases e; exact Nat.le_refl _)
  have hq : Below v1.heap.size v1 v5 := hq4.grown hg5 hq4.size (by intro k e; cases e; exact hb2.size)
  have X4 := hid (hB4.grown hg5 (fun e => by have := Option.some.inj e; omega))
  have Z4 := hid hB5
  have R4 := hid (hR1.below hq)
  have hall := below_chain hb1 hq
  have Y := hid (below_chain Y.out hall)
  have X3 := hid (X3.out.belowS hall)
  have R3 := hid (R3.out.below hall)
  clear hb1 hR1' hR1 hB2 hb2 hB4 hg4 hq hall hB3 hb3 l23 hq2 hq4 hB5 hg5 a0 a1 a2 a3
  generalize v1.heap.size = g4 at *
  generalize v2.heap.size = gi4 at *
  generalize v5 = w4 at *
  clear X4 R4
  clear Z4
  obtain ⟨a0, a1, a2, a3⟩ := two_facts X3.out
  go_upto_region 6 with (first
    | ((with_reducible refine (hJ5.out _ _ _ _ R3.out (HG0.out.below Y.out)).mono ?_); rintro e v1 ⟨D5, m5, c5, rfl, hR1', hb1⟩; have hR1 := hR1'.in_)
    | ((with_reducible refine at_alloc (d := some 11) 24 ?_); refine wpList_al rfl 24 rfl _ (hub_zero _) ?_; intro v2 hB2 hb2 hy; clear hy)
    | ((with_reducible refine at_store 24 ?_); refine wpList_str rfl 24 _ _ rfl v1.heap.size _ rfl rfl _ _ hB2 rfl (hub_size _ _) (one_hub _ _ _ _) ?_; intro v4 hB4 hg4 hy; clear hy))
  have hq : Below v1.heap.size v1 v4 := hb2.grown hg4 hb2.size (by intro k e; cases e; exact Nat.le_refl _)
  have X5 := hid hB4
  have R5 := hid (hR1.below hq)
  have hall := below_chain hb1 hq
  have Y := hid (below_chain Y.out hall)
  have X3 := hid (X3.out.belowS hall)
  have R3 := hid (R3.out.below hall)
  clear hb1 hR1' hR1 hB2 hb2 hB4 hg4 hq hall a0 a1 a2 a3
  generalize v1.heap.size = g5 at *
  generalize v4 = w5 at *
  clear X3 R3
  clear X5 R5
  go_upto_region 7 with (first
    | ((with_reducible refine (h2.out _ (HG0.out.below Y.out)).mono ?_); rintro e v0 ⟨D0, m0, c0, rfl, hR0', hb0⟩; have hR0 := hR0'.in_)
    | ((with_reducible refine (hJ6.out _ _ _ _ hR0 ((HG0.out.below Y.out).below hb0)).mono ?_); rintro e v1 ⟨D6, m6, c6, rfl, hR1', hb1⟩; have hR1 := hR1'.in_)
    | ((with_reducible refine at_alloc (d := some 14) 24 ?_); refine wpList_al rfl 24 rfl _ (hub_zero _) ?_; intro v2 hB2 hb2 hy; clear hy)
    | ((with_reducible refine at_store 24 ?_); refine wpList_str rfl 24 _ _ rfl v1.heap.size _ rfl rfl _ _ hB2 rfl (hub_size _ _) (one_hub _ _ _ _) ?_; intro v4 hB4 hg4 hy; clear hy))
  have hq : Below v1.heap.size v1 v4 := hb2.grown hg4 hb2.size (by intro k e; cases e; exact Nat.le_refl _)
  have X6 := hid hB4
  have R6 := hid (hR1.below hq)
  have hall := below_chain (below_chain hb0 hb1) hq
  have Y := hid (below_chain Y.out hall)
  clear hb1 hR1' hR1 hB2 hb2 hB4 hg4 hq hall hR0' hR0 hb0
  generalize v1.heap.size = g6 at *
  generalize v4 = w6 at *
  clear X6 R6
  go_wp2_with (first
    | ((with_reducible refine (hA.out _ (HG0.out.below Y.out)).mono ?_); rintro e v1 ⟨rfl, hb1⟩)
    | ((with_reducible refine at_build 24 ?_); refine wpList_b1_g (by kernel_rfl) 24 0 _ rfl (.int .i64 (-1)) rfl _ (hHB.out _) ?_)
    | ((with_reducible refine (hC7.out _).mono ?_); rintro e v2 ⟨rfl, hb2⟩))
  go_ret
  exact ⟨rfl, below_chain (below_chain Y.out hb1) hb2⟩
namespace hubNames
theorem hubNames_law {W : World} (hG : GOk W) : Calls Tryd.prog 3 #[] W fun e w' => e = .returned (.bool true) ∧ Below W.heap.size W w' := names_any W hG
end hubNames
end Go.Proofs.YtmepbokoopgmiaaDoor
