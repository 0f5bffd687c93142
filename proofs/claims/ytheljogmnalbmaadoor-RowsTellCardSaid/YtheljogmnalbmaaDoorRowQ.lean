/-
  Contracts of rows.Sides and of the function in it that calls itself. The table k stands in its variable.
-/
import Derived.Test.YtheljogmnalbmaaDoorRowP
import Derived.Test.YtheljogmnalbmaaDoorRowH
import Derived.Laws.EntriesVeiled
import Derived.Great.BuildSlice
namespace Go.Proofs.YtheljogmnalbmaaDoor
open Go.RowKit
set_option linter.unusedSimpArgs false
set_option linter.unusedVariables false

theorem dig_info : (Tryd.prog.info? 23).map (fun i => (i.zero, i.size, i.bytes)) = some (some (.agg zeroD), 32, 32) := by kernel_rfl
theorem dig_cells : (Value.agg zeroD).cells.size = 32 := rfl
theorem dig_bslice (d : List UInt8) (hd : d.length = 32) (w : World) : (Instr.buildSlice 25 1 #[(0, .agg (d.map bv).toArray)]).run Tryd.prog w = .ok (.slice (some ⟨w.heap.size, 0, none⟩) 1 1) (w.alloc (.cells (d.map bv).toArray 23)) := by
  obtain ⟨i0, hi0, hz0, hz1, hz2⟩ := info_parts dig_info
  refine run_buildSlice w _ _ _ _ _ i0 _ Tryd.underlying25 hi0 hz0 (by rw [hz1]; omega) (by rw [hz1]; omega) ?_
  rw [hz1]
  have := Great.fill_whole (s := 32) (by omega) [Value.agg (d.map bv).toArray] ((Array.range (1 * 32)).map ((Value.agg zeroD).cells[· % (Value.agg zeroD).cells.size]!)) (fun v hv => by
    simp only [List.mem_singleton] at hv
    subst hv
    simp [Value.cells, hd]) (by simp)
  refine this.trans ?_
  simp [Value.cells]

/-- The two variables that the inner function holds: itself, and the sides so far. -/
def SSt (w : World) (g : Nat) (D : Option Addr) (c : Nat) (ds : List (List UInt8)) : Prop :=
  Blk w (g + 1) 53 #[.func (.func 30) #[] #[.pointer (some ⟨g + 1, 0, none⟩), .pointer (some ⟨g, 0, none⟩)]] ∧ Blk w g 25 #[.slice D ds.length c] ∧ Go.Proofs.YtheljogmnalbmaaDoor.Own w (g + 2) 23 32 D ds.length c (dsL ds) ∧ Dg ds ∧ g + 2 ≤ w.heap.size
theorem SSt.below {w w' : World} {g c : Nat} {D : Option Addr} {ds : List (List UInt8)} (h : SSt w g D c ds) (hb : Below w.heap.size w w') : SSt w' g D c ds :=
  ⟨h.1.belowS hb, h.2.1.belowS hb, h.2.2.1.below hb, h.2.2.2.1, Nat.le_trans h.2.2.2.2 hb.size⟩
theorem SSt.push {w w6 : World} {g c c' : Nat} {D D' : Option Addr} {ds : List (List UInt8)} {d : List UInt8} (h : SSt w g D c ds) (hd : d.length = 32) (hO : Go.Proofs.YtheljogmnalbmaaDoor.Own w6 (g + 2) 23 32 D' (ds.length + 1) c' (dsL ds ++ d.map bv)) (hg : w.grownBy w6 (rowOf D c)) :
    SSt (w6.setCell ⟨g, 0, none⟩ (.slice D' (ds.length + 1) c')) g D' c' (ds ++ [d]) := by
  have e1 : (ds ++ [d]).length = ds.length + 1 := by simp
  have hr := h.2.2.1.row_lt
  have n1 : some (g + 1) ≠ rowOf D c := fun e => by have := (hr _ e.symm).1; omega
  have n0 : some g ≠ rowOf D c := fun e => by have := (hr _ e.symm).1; omega
  refine ⟨((h.1.grown hg n1).far (by omega) _), ?_, ?_, ?_, ?_⟩
  · rw [e1]
    exact (h.2.1.grown hg n0).set_ 0 _
  · rw [e1, dsL_app]
    have : dsL [d] = d.map bv := by simp [dsL]
    rw [this]
    exact hO.setRow (fun e => by have := (hO.row_lt _ e).1; omega) _
  · intro x hx
    rcases List.mem_append.1 hx with h1 | h1
    · exact h.2.2.2.1 x h1
    · simp at h1
      subst h1
      exact hd
  · have := h.2.2.2.2
    have := hg.size
    simp
    omega
theorem below_push {W0 w w6 : World} {g c : Nat} {D : Option Addr} {ds : List (List UInt8)} (hB : Below g W0 w) (h : SSt w g D c ds) (hg : w.grownBy w6 (rowOf D c)) (v : Value) : Below g W0 (w6.setCell ⟨g, 0, none⟩ v) := by
  have h1 : Below g w w6 := below_of_grown hg (by have := h.2.2.2.2; omega) (fun k hk => by have := (h.2.2.1.row_lt k hk).1; omega)
  have h2 : Below g w6 (w6.setCell ⟨g, 0, none⟩ v) := ((Chg.refl w6 (fun b => b = g)).setCell (g := g) (i := 0) v (.inl rfl)).below (by have := h.2.2.2.2; have := hg.size; omega) (fun b e => by omega)
  exact (hB.trans h1).trans h2
/-- What the inner function does: it lays the sides behind those that stand. -/
def SPost (W0 : World) (g : Nat) (ds L : List (List UInt8)) (e : Ending) (w' : World) : Prop := (∃ v, e = .returned v) ∧ Below g W0 w' ∧ ∃ D' c', SSt w' g D' c' (ds ++ L)

set_option maxRecDepth 100000 in
set_option maxHeartbeats 4000000 in
theorem sides_one (W0 : World) (g : Nat) (P : Option Addr) (pc i c : Nat) (D : Option Addr) (ds : List (List UInt8)) (w : World) (hB : Below g W0 w) (hS : SSt w g D c ds) :
    Calls Tryd.prog 30 #[.slice P 1 pc, .int .i64 i, .pointer (some ⟨g + 1, 0, none⟩), .pointer (some ⟨g, 0, none⟩)] w (SPost W0 g ds []) := by
  have HB := hid hB
  have HS := hid hS
  clear hB hS
  go_enter Tryd.func30, Tryd.ntmps30
  go_wp2_with fail
  refine bodyPost_ret (results_none rfl _ _ _) rfl ?_
  exact ⟨⟨_, rfl⟩, HB.out, D, c, by rw [List.append_nil]; exact HS.out⟩
theorem blk_rd32 {w : World} {g : Nat} (d : List UInt8) (hd : d.length = 32) (h : Blk w g 23 (d.map bv).toArray) : Rd w 0 32 (some ⟨g, 0, none⟩) 1 (d.map bv) := by
  refine ⟨by simp [hd], fun _ => ⟨g, 0, rfl, Nat.zero_le _, fun j _ => ?_⟩⟩
  rw [Nat.zero_add, cell_of_row _ _ _ _ _ _ h]
  simp
theorem below_g {W0 w w' : World} {g c : Nat} {D : Option Addr} {ds : List (List UInt8)} (hB : Below g W0 w) (hb : Below w.heap.size w w') (h : SSt w g D c ds) : Below g W0 w' := hB.trans (hb.mono (by have := h.2.2.2.2; omega))
theorem step_bsl1 {P : Program} {ops : Array Oper} {o : Oper} {a : Act} {w : World} {K : Act → World → Prop} {Q : Exit → Act → World → Prop} {E : Prop} (hgd : o.guard = none) (t e : TypeId) (len i : Nat) (y : Operand) (ho : o.op = .buildSlice t len #[(i, y)]) (v : Value) (hv : a.eval y = v) (cells : Array Value)
    (hx : (Instr.buildSlice t len #[(i, v)]).run P w = .ok (.slice (some ⟨w.heap.size, 0, none⟩) len len) (w.alloc (.cells cells e)))
    (h : ∀ w', Blk w' w.heap.size e cells → Below w.heap.size w w' → w'.heap.size = w.heap.size + 1 → K (a.put o.dst (.slice (some ⟨w.heap.size, 0, none⟩) len len)) w') :
    if Region.wanted o (yielded ops a.tmps) = true then Oper.wp P o a w K Q else E := by
  have hw : Region.wanted o (yielded ops a.tmps) = true := by simp [Region.wanted, hgd]
  rw [if_pos hw]
  unfold Oper.wp execOp
  simp only [ho, List.map_toArray, List.map_cons, List.map_nil, hv, Sem.run_bind, hx, Result.andThen_ok]
  exact h _ (Blk.new w e cells) (below_alloc1 w _) (by simp)

set_option maxRecDepth 100000 in
set_option maxHeartbeats 8000000 in
theorem sides_lt (W0 : World) (hK0 : KOk W0) (g : Nat) (hg : W0.heap.size = g) (b o np pc f i c : Nat) (D : Option Addr) (ds L : List (List UInt8)) (pss : List (List UInt8)) (w : World) (hf : frontN np = f) (h2 : 2 ≤ np) (h256 : np ≤ 256) (hpc : np ≤ pc) (hi : i < f) (hin : i < np)
    (hP : Parts W0 (some ⟨b, o, none⟩) np pss) (hl : ∀ p ∈ pss, p.length ≤ 5000) (hB : Below g W0 w) (hS : SSt w g D c ds) (hn : (ds ++ L).length ≤ 900)
    (hrec : ∀ W, Below g W0 W → SSt W g D c ds → Calls Tryd.prog 30 #[.slice (some ⟨b, o, none⟩) f pc, .int .i64 i, .pointer (some ⟨g + 1, 0, none⟩), .pointer (some ⟨g, 0, none⟩)] W (SPost W0 g ds L)) :
    Calls Tryd.prog 30 #[.slice (some ⟨b, o, none⟩) np pc, .int .i64 i, .pointer (some ⟨g + 1, 0, none⟩), .pointer (some ⟨g, 0, none⟩)] w (SPost W0 g ds (L ++ [rootT (pss.drop f)])) := by
  have hfb := frontN_bounds h2
  rw [hf] at hfb
  obtain ⟨hf1, hf2, hf3⟩ := hfb
  have hRec := hid hrec
  have hRt := hid (fun W (hb : Below g W0 W) => root_any np (some ⟨b, o + f, none⟩) (np - f) (pc - f) (pss.drop f) W (by omega) (parts_drop (hP.below (hg ▸ hb))) (by omega) (by omega) (fun p hp => hl p (List.mem_of_mem_drop hp)) (hK0.below (hg ▸ hb)))
  have hFr := hid (fun W => front_any np h2 (by omega) W)
  rw [hf] at hFr
  unfold GivesD at hRt
  have hdr := rootT_len (pss.drop f)
  generalize rootT (pss.drop f) = dr at *
  have HB := hid hB
  have HS := hid hS
  have hgf : (g : Nat) < g + 1 := by omega
  have t1 : ¬ (np : Int) = 1 := by omega
  have t2 : ((np : Int) == 1) = false := by simpa using t1
  have a1 : (f : Int) ≤ np := by omega
  have a2 : (f : Int) ≤ pc := by omega
  have a3 : (np : Int) ≤ pc := by omega
  have a4 : (np : Int) ≤ 1000 := by omega
  have a5 : (0 : Int) ≤ f := by omega
  have a6 : (i : Int) < np := by omega
  have a7 : (i : Int) < f := by omega
  have a8 : (0 : Int) ≤ i := by omega
  have a9 : (i : Int) ≤ 1000 := by omega
  have a10 : (f : Int) ≤ 1000 := by omega
  have a11 : -1000 ≤ (i : Int) - f := by omega
  have a12 : (i : Int) - f ≤ 1000 := by omega
  have a13 : IntKind.i64.wrap ((i : Int) - f) = (i : Int) - f := by rw [IntKind.wrap_i64]; omega
  have b1 : f ≤ np := by omega
  have hpf : ¬ pc = f := by omega
  have b2 : f ≤ pc := by omega
  have b3 : np ≤ 1000 := by omega
  have b4 : i ≤ 1000 := by omega
  have o0 : f * 1 = f := Nat.mul_one f
  obtain ⟨i0, hi0, hz0, hz1, hz2⟩ := info_parts dig_info
  have hnl : ds.length + L.length ≤ 900 := by simpa using hn
  clear hrec hB hS hP hl hK0 hf hn hg
  go_enter Tryd.func30, Tryd.ntmps30
  go_upto_region 3 with (first
    | ((with_reducible refine (hFr.out _).mono ?_); rintro e v1 ⟨rfl, hv⟩; subst hv))
  have HBd := hid (below_drew1 HB.out)
  have HSd := hid (show SSt v1.drew g D c ds from HS.out)
  have hc0 : v1.drew.cell? ⟨g + 1, 0, none⟩ = some (.func (.func 30) #[] #[.pointer (some ⟨g + 1, 0, none⟩), .pointer (some ⟨g, 0, none⟩)]) := (two_facts1 HSd.out.1).1
  refine wp_region_held_drew (S := (fun w' => w'.cell? ⟨g + 1, 0, none⟩ = some (.func (.func 30) #[] #[.pointer (some ⟨g + 1, 0, none⟩), .pointer (some ⟨g, 0, none⟩)]))) (by kernel_rfl) hc0 (fun hHeld => ?_)
  refine reg_take (v := ?_) 0 rfl (by kernel_rfl) (by kernel_rfl) (by kernel_rfl) (fun _ _ _ h => h) (Or.inl ⟨by rfl, ?_⟩) (by assumption) ?_; rotate_left; (intro w hSw; (try dsimp only at hSw); go_simp); (try with_reducible rfl); (try simp only [Act.put, List.setIfInBounds_toArray, List.set_cons_zero, List.set_cons_succ])
  refine reg_take (v := ?_) 1 rfl (by kernel_rfl) (by kernel_rfl) (by kernel_rfl) (fun _ _ _ h => h) (Or.inl ⟨by rfl, ?_⟩) (by assumption) ?_; rotate_left; (intro w hSw; (try dsimp only at hSw); go_simp); (try with_reducible rfl); (try simp only [Act.put, List.setIfInBounds_toArray, List.set_cons_zero, List.set_cons_succ])
  refine reg_take (v := ?_) 2 rfl (by kernel_rfl) (by kernel_rfl) (by kernel_rfl) (fun _ _ _ h => h) (Or.inl ⟨by rfl, ?_⟩) (by assumption) ?_; rotate_left; (intro w hSw; (try dsimp only at hSw); go_simp); (try with_reducible rfl); (try simp only [Act.put, List.setIfInBounds_toArray, List.set_cons_zero, List.set_cons_succ])
  refine reg_take (v := ?_) 3 rfl (by kernel_rfl) (by kernel_rfl) (by kernel_rfl) (fun _ _ _ h => h) (Or.inl ⟨by rfl, ?_⟩) (by assumption) ?_; rotate_left; (intro w hSw; (try dsimp only at hSw); go_simp); (try with_reducible rfl); (try simp only [Act.put, List.setIfInBounds_toArray, List.set_cons_zero, List.set_cons_succ])
  refine reg_take (v := ?_) 4 rfl (by kernel_rfl) (by kernel_rfl) (by kernel_rfl) (fun _ _ _ h => h) (Or.inl ⟨by rfl, ?_⟩) (by assumption) ?_; rotate_left; (intro w hSw; (try dsimp only at hSw); go_simp); (try with_reducible rfl); (try simp only [Act.put, List.setIfInBounds_toArray, List.set_cons_zero, List.set_cons_succ])
  refine reg_only 5 rfl (by kernel_rfl) (fun K hK => ?_); go_simp; (with_reducible refine (hRec.out _ HBd.out HSd.out).mono ?_); rintro e' u1 ⟨⟨vv, rfl⟩, hB1, D1, c1, hS1⟩; have B1 := hid hB1; have S1 := hid hS1; clear hB1 hS1; refine hK.out _ _ ?_ (fun hHeld => ?_); (exact (two_facts1 S1.out.1).1); clear hK K; (try simp only [Act.put, List.setIfInBounds_toArray, List.set_cons_zero, List.set_cons_succ])
  refine wpAnyH_done (by kernel_rfl) ?_ _

  go_wp2_with fail
  obtain ⟨n1, hn1⟩ : ∃ n1, (ds ++ L).length = n1 := ⟨_, rfl⟩
  have hn900 : n1 ≤ 900 := by rw [← hn1]; simpa using hnl
  have B1d := hid (below_drew1 B1.out)
  have S1d := hid (show SSt u1.drew g D1 c1 (ds ++ L) from S1.out)
  have hc1 : u1.drew.cell? ⟨g, 0, none⟩ = some (.slice D1 n1 c1) := by rw [← hn1]; exact (two_facts1 S1d.out.2.1).1
  refine wp_region_F_drew 7 (S := (fun w' => w'.cell? ⟨g, 0, none⟩ = some (.slice D1 n1 c1))) (by kernel_rfl) hc1 (fun hHeld => ?_)
  refine regF_take (v := ?_) 0 (by kernel_rfl) (by rfl) rfl (by kernel_rfl) (by kernel_rfl) (by kernel_rfl) (fun _ _ _ h => h) (Or.inl ⟨by rfl, ?_⟩) (by assumption) ?_; rotate_left; (intro w hSw; (try dsimp only at hSw); go_simp); (try with_reducible rfl); (try simp only [Act.put, List.setIfInBounds_toArray, List.set_cons_zero, List.set_cons_succ])
  refine regF_take (v := ?_) 1 (by kernel_rfl) (by rfl) rfl (by kernel_rfl) (by kernel_rfl) (by kernel_rfl) (fun _ _ _ h => h) (Or.inl ⟨by rfl, ?_⟩) (by assumption) ?_; rotate_left; (intro w hSw; (try dsimp only at hSw); go_simp); (try with_reducible rfl); (try simp only [Act.put, List.setIfInBounds_toArray, List.set_cons_zero, List.set_cons_succ])
  refine regF_take (v := ?_) 2 (by kernel_rfl) (by rfl) rfl (by kernel_rfl) (by kernel_rfl) (by kernel_rfl) (fun _ _ _ h => h) (Or.inl ⟨by rfl, ?_⟩) (by assumption) ?_; rotate_left; (intro w hSw; (try dsimp only at hSw); go_simp); (try with_reducible rfl); (try simp only [Act.put, List.setIfInBounds_toArray, List.set_cons_zero, List.set_cons_succ])
  refine regF_take (v := ?_) 3 (by kernel_rfl) (by rfl) rfl (by kernel_rfl) (by kernel_rfl) (by kernel_rfl) (fun _ _ _ h => h) (Or.inl ⟨by rfl, ?_⟩) (by assumption) ?_; rotate_left; (intro w hSw; (try dsimp only at hSw); go_simp); (try with_reducible rfl); (try simp only [Act.put, List.setIfInBounds_toArray, List.set_cons_zero, List.set_cons_succ])
  refine regF_only 4 rfl (by kernel_rfl) (fun K hK => ?_); go_simp; (with_reducible refine (hRt.out _ B1d.out).mono ?_); rintro e' u4 ⟨rfl, hb4⟩; have S4 := hid (S1d.out.below hb4); have B4 := hid (below_g B1d.out hb4 S1d.out); refine hK.out _ _ ?_ (fun hHeld => ?_); (rw [← hn1]; exact (two_facts1 S4.out.2.1).1); clear hK K; (try simp only [Act.put, List.setIfInBounds_toArray, List.set_cons_zero, List.set_cons_succ])
  refine regF_only 5 rfl (by kernel_rfl) (fun K hK => ?_); refine step_bsl1 rfl 25 23 1 0 _ rfl _ rfl _ (dig_bslice dr hdr _) ?_; intro u5 hB5 hb5 hy; clear hy; have S5 := hid (S4.out.below hb5); have B5 := hid (below_g B4.out hb5 S4.out); have hR5 := hid (blk_rd32 dr hdr hB5); clear hB5; refine hK.out _ _ ?_ (fun hHeld => ?_); (rw [← hn1]; exact (two_facts1 S5.out.2.1).1); clear hK K; (try simp only [Act.put, List.setIfInBounds_toArray, List.set_cons_zero, List.set_cons_succ])
  refine regF_only 6 rfl (by kernel_rfl) (fun K hK => ?_); refine step_app rfl _ _ _ rfl (g + 2) 23 i0 _ 32 32 Tryd.underlying25 hi0 hz0 hz1 hz2 dig_cells (by omega) D1 n1 c1 _ rfl (by rw [← hn1]; exact S5.out.2.2.1) _ 1 1 0 (dr.map bv) rfl hR5.out (bv_one _) (by simp only [maxLen]; omega) (by omega) S5.out.2.2.2.2 ?_; intro D' c' u6 hO6 hg6 hat; have HO6 := hid hO6; have HG6 := hid hg6; clear hO6 hg6 hat; have S6 := hid (two_facts1 (S5.out.2.1.grown HG6.out (fun e => by have := (S5.out.2.2.1.row_lt _ e.symm).1; omega))); obtain ⟨cg, fg⟩ := S6.out; refine hK.out _ _ ?_ (fun hHeld => ?_); (rw [hn1] at cg; exact cg); clear hK K; (try simp only [Act.put, List.setIfInBounds_toArray, List.set_cons_zero, List.set_cons_succ])
  refine regF_last 7 rfl rfl (by kernel_rfl) (fun K hK => ?_); go_simp; skip; refine hK.out _ _ (fun _ => ?_); clear hK K; (try simp only [Act.put, List.setIfInBounds_toArray, List.set_cons_zero, List.set_cons_succ])
  refine wpAnyF_done (by kernel_rfl) ?_ _

  go_wp2
  refine bodyPost_ret (results_none rfl _ _ _) rfl ?_
  refine ⟨⟨_, rfl⟩, below_push B5.out S5.out HG6.out _, D', c', ?_⟩
  have := S5.out.push hdr (by rw [hn1]; exact HO6.out) HG6.out
  rw [hn1] at this
  rw [← List.append_assoc]
  exact this

set_option maxRecDepth 100000 in
set_option maxHeartbeats 8000000 in
theorem sides_ge (W0 : World) (hK0 : KOk W0) (g : Nat) (hg : W0.heap.size = g) (b o np pc f i c : Nat) (D : Option Addr) (ds L : List (List UInt8)) (pss : List (List UInt8)) (w : World) (hf : frontN np = f) (h2 : 2 ≤ np) (h256 : np ≤ 256) (hpc : np ≤ pc) (hi : ¬ i < f) (hin : i < np)
    (hP : Parts W0 (some ⟨b, o, none⟩) np pss) (hl : ∀ p ∈ pss, p.length ≤ 5000) (hB : Below g W0 w) (hS : SSt w g D c ds) (hn : (ds ++ L).length ≤ 900)
    (hrec : ∀ W, Below g W0 W → SSt W g D c ds → Calls Tryd.prog 30 #[.slice (some ⟨b, o + f, none⟩) (np - f) (pc - f), .int .i64 ((i : Int) - f), .pointer (some ⟨g + 1, 0, none⟩), .pointer (some ⟨g, 0, none⟩)] W (SPost W0 g ds L)) :
    Calls Tryd.prog 30 #[.slice (some ⟨b, o, none⟩) np pc, .int .i64 i, .pointer (some ⟨g + 1, 0, none⟩), .pointer (some ⟨g, 0, none⟩)] w (SPost W0 g ds (L ++ [rootT (pss.take f)])) := by
  have hfb := frontN_bounds h2
  rw [hf] at hfb
  obtain ⟨hf1, hf2, hf3⟩ := hfb
  have hRec := hid hrec
  have hRt := hid (fun W (hb : Below g W0 W) => root_any np (some ⟨b, o, none⟩) f pc (pss.take f) W (by omega) (parts_take (hP.below (hg ▸ hb)) (by omega)) (by omega) (by omega) (fun p hp => hl p (List.mem_of_mem_take hp)) (hK0.below (hg ▸ hb)))
  have hFr := hid (fun W => front_any np h2 (by omega) W)
  rw [hf] at hFr
  unfold GivesD at hRt
  have hdr := rootT_len (pss.take f)
  generalize rootT (pss.take f) = dr at *
  have HB := hid hB
  have HS := hid hS
  have hgf : (g : Nat) < g + 1 := by omega
  have t1 : ¬ (np : Int) = 1 := by omega
  have t2 : ((np : Int) == 1) = false := by simpa using t1
  have a1 : (f : Int) ≤ np := by omega
  have a2 : (f : Int) ≤ pc := by omega
  have a3 : (np : Int) ≤ pc := by omega
  have a4 : (np : Int) ≤ 1000 := by omega
  have a5 : (0 : Int) ≤ f := by omega
  have a6 : (i : Int) < np := by omega
  have a7 : ¬ (i : Int) < f := by omega
  have a8 : (0 : Int) ≤ i := by omega
  have a9 : (i : Int) ≤ 1000 := by omega
  have a10 : (f : Int) ≤ 1000 := by omega
  have a11 : -1000 ≤ (i : Int) - f := by omega
  have a12 : (i : Int) - f ≤ 1000 := by omega
  have a13 : IntKind.i64.wrap ((i : Int) - f) = (i : Int) - f := by rw [IntKind.wrap_i64]; omega
  have b1 : f ≤ np := by omega
  have hpf : ¬ pc = f := by omega
  have b2 : f ≤ pc := by omega
  have b3 : np ≤ 1000 := by omega
  have b4 : i ≤ 1000 := by omega
  have o0 : f * 1 = f := Nat.mul_one f
  obtain ⟨i0, hi0, hz0, hz1, hz2⟩ := info_parts dig_info
  have hnl : ds.length + L.length ≤ 900 := by simpa using hn
  clear hrec hB hS hP hl hK0 hf hn hg
  go_enter Tryd.func30, Tryd.ntmps30
  go_upto_region 5 with (first
    | ((with_reducible refine (hFr.out _).mono ?_); rintro e v1 ⟨rfl, hv⟩; subst hv))
  have HBd := hid (below_drew1 HB.out)
  have HSd := hid (show SSt v1.drew g D c ds from HS.out)
  have hc0 : v1.drew.cell? ⟨g + 1, 0, none⟩ = some (.func (.func 30) #[] #[.pointer (some ⟨g + 1, 0, none⟩), .pointer (some ⟨g, 0, none⟩)]) := (two_facts1 HSd.out.1).1
  refine wp_region_held_drew (S := (fun w' => w'.cell? ⟨g + 1, 0, none⟩ = some (.func (.func 30) #[] #[.pointer (some ⟨g + 1, 0, none⟩), .pointer (some ⟨g, 0, none⟩)]))) (by kernel_rfl) hc0 (fun hHeld => ?_)
  refine reg_take (v := ?_) 0 rfl (by kernel_rfl) (by kernel_rfl) (by kernel_rfl) (fun _ _ _ h => h) (Or.inl ⟨by rfl, ?_⟩) (by assumption) ?_; rotate_left; (intro w hSw; (try dsimp only at hSw); go_simp); (try with_reducible rfl); (try simp only [Act.put, List.setIfInBounds_toArray, List.set_cons_zero, List.set_cons_succ])
  refine reg_take (v := ?_) 1 rfl (by kernel_rfl) (by kernel_rfl) (by kernel_rfl) (fun _ _ _ h => h) (Or.inl ⟨by rfl, ?_⟩) (by assumption) ?_; rotate_left; (intro w hSw; (try dsimp only at hSw); go_simp); (try with_reducible rfl); (try simp only [Act.put, List.setIfInBounds_toArray, List.set_cons_zero, List.set_cons_succ])
  refine reg_take (v := ?_) 2 rfl (by kernel_rfl) (by kernel_rfl) (by kernel_rfl) (fun _ _ _ h => h) (Or.inl ⟨by rfl, ?_⟩) (by assumption) ?_; rotate_left; (intro w hSw; (try dsimp only at hSw); go_simp); (try with_reducible rfl); (try simp only [Act.put, List.setIfInBounds_toArray, List.set_cons_zero, List.set_cons_succ])
  refine reg_take (v := ?_) 3 rfl (by kernel_rfl) (by kernel_rfl) (by kernel_rfl) (fun _ _ _ h => h) (Or.inl ⟨by rfl, ?_⟩) (by assumption) ?_; rotate_left; (intro w hSw; (try dsimp only at hSw); go_simp); (try with_reducible rfl); (try simp only [Act.put, List.setIfInBounds_toArray, List.set_cons_zero, List.set_cons_succ])
  refine reg_take (v := ?_) 4 rfl (by kernel_rfl) (by kernel_rfl) (by kernel_rfl) (fun _ _ _ h => h) (Or.inl ⟨by rfl, ?_⟩) (by assumption) ?_; rotate_left; (intro w hSw; (try dsimp only at hSw); go_simp); (try with_reducible rfl); (try simp only [Act.put, List.setIfInBounds_toArray, List.set_cons_zero, List.set_cons_succ])
  refine reg_take (v := ?_) 5 rfl (by kernel_rfl) (by kernel_rfl) (by kernel_rfl) (fun _ _ _ h => h) (Or.inl ⟨by rfl, ?_⟩) (by assumption) ?_; rotate_left; (intro w hSw; (try dsimp only at hSw); go_simp); (try with_reducible rfl); (try simp only [Act.put, List.setIfInBounds_toArray, List.set_cons_zero, List.set_cons_succ])
  refine reg_take (v := ?_) 6 rfl (by kernel_rfl) (by kernel_rfl) (by kernel_rfl) (fun _ _ _ h => h) (Or.inl ⟨by rfl, ?_⟩) (by assumption) ?_; rotate_left; (intro w hSw; (try dsimp only at hSw); go_simp); (try with_reducible rfl); (try simp only [Act.put, List.setIfInBounds_toArray, List.set_cons_zero, List.set_cons_succ])
  refine reg_only 7 rfl (by kernel_rfl) (fun K hK => ?_); go_simp; (with_reducible refine (hRec.out _ HBd.out HSd.out).mono ?_); rintro e' u1 ⟨⟨vv, rfl⟩, hB1, D1, c1, hS1⟩; have B1 := hid hB1; have S1 := hid hS1; clear hB1 hS1; refine hK.out _ _ ?_ (fun hHeld => ?_); (exact (two_facts1 S1.out.1).1); clear hK K; (try simp only [Act.put, List.setIfInBounds_toArray, List.set_cons_zero, List.set_cons_succ])
  refine wpAnyH_done (by kernel_rfl) ?_ _

  go_wp2_with fail
  obtain ⟨n1, hn1⟩ : ∃ n1, (ds ++ L).length = n1 := ⟨_, rfl⟩
  have hn900 : n1 ≤ 900 := by rw [← hn1]; simpa using hnl
  have B1d := hid (below_drew1 B1.out)
  have S1d := hid (show SSt u1.drew g D1 c1 (ds ++ L) from S1.out)
  have hc1 : u1.drew.cell? ⟨g, 0, none⟩ = some (.slice D1 n1 c1) := by rw [← hn1]; exact (two_facts1 S1d.out.2.1).1
  refine wp_region_F_drew 7 (S := (fun w' => w'.cell? ⟨g, 0, none⟩ = some (.slice D1 n1 c1))) (by kernel_rfl) hc1 (fun hHeld => ?_)
  refine regF_take (v := ?_) 0 (by kernel_rfl) (by rfl) rfl (by kernel_rfl) (by kernel_rfl) (by kernel_rfl) (fun _ _ _ h => h) (Or.inl ⟨by rfl, ?_⟩) (by assumption) ?_; rotate_left; (intro w hSw; (try dsimp only at hSw); go_simp); (try with_reducible rfl); (try simp only [Act.put, List.setIfInBounds_toArray, List.set_cons_zero, List.set_cons_succ])
  refine regF_take (v := ?_) 1 (by kernel_rfl) (by rfl) rfl (by kernel_rfl) (by kernel_rfl) (by kernel_rfl) (fun _ _ _ h => h) (Or.inl ⟨by rfl, ?_⟩) (by assumption) ?_; rotate_left; (intro w hSw; (try dsimp only at hSw); go_simp); (try with_reducible rfl); (try simp only [Act.put, List.setIfInBounds_toArray, List.set_cons_zero, List.set_cons_succ])
  refine regF_take (v := ?_) 2 (by kernel_rfl) (by rfl) rfl (by kernel_rfl) (by kernel_rfl) (by kernel_rfl) (fun _ _ _ h => h) (Or.inl ⟨by rfl, ?_⟩) (by assumption) ?_; rotate_left; (intro w hSw; (try dsimp only at hSw); go_simp); (try with_reducible rfl); (try simp only [Act.put, List.setIfInBounds_toArray, List.set_cons_zero, List.set_cons_succ])
  refine regF_take (v := ?_) 3 (by kernel_rfl) (by rfl) rfl (by kernel_rfl) (by kernel_rfl) (by kernel_rfl) (fun _ _ _ h => h) (Or.inl ⟨by rfl, ?_⟩) (by assumption) ?_; rotate_left; (intro w hSw; (try dsimp only at hSw); go_simp); (try with_reducible rfl); (try simp only [Act.put, List.setIfInBounds_toArray, List.set_cons_zero, List.set_cons_succ])
  refine regF_only 4 rfl (by kernel_rfl) (fun K hK => ?_); go_simp; (with_reducible refine (hRt.out _ B1d.out).mono ?_); rintro e' u4 ⟨rfl, hb4⟩; have S4 := hid (S1d.out.below hb4); have B4 := hid (below_g B1d.out hb4 S1d.out); refine hK.out _ _ ?_ (fun hHeld => ?_); (rw [← hn1]; exact (two_facts1 S4.out.2.1).1); clear hK K; (try simp only [Act.put, List.setIfInBounds_toArray, List.set_cons_zero, List.set_cons_succ])
  refine regF_only 5 rfl (by kernel_rfl) (fun K hK => ?_); refine step_bsl1 rfl 25 23 1 0 _ rfl _ rfl _ (dig_bslice dr hdr _) ?_; intro u5 hB5 hb5 hy; clear hy; have S5 := hid (S4.out.below hb5); have B5 := hid (below_g B4.out hb5 S4.out); have hR5 := hid (blk_rd32 dr hdr hB5); clear hB5; refine hK.out _ _ ?_ (fun hHeld => ?_); (rw [← hn1]; exact (two_facts1 S5.out.2.1).1); clear hK K; (try simp only [Act.put, List.setIfInBounds_toArray, List.set_cons_zero, List.set_cons_succ])
  refine regF_only 6 rfl (by kernel_rfl) (fun K hK => ?_); refine step_app rfl _ _ _ rfl (g + 2) 23 i0 _ 32 32 Tryd.underlying25 hi0 hz0 hz1 hz2 dig_cells (by omega) D1 n1 c1 _ rfl (by rw [← hn1]; exact S5.out.2.2.1) _ 1 1 0 (dr.map bv) rfl hR5.out (bv_one _) (by simp only [maxLen]; omega) (by omega) S5.out.2.2.2.2 ?_; intro D' c' u6 hO6 hg6 hat; have HO6 := hid hO6; have HG6 := hid hg6; clear hO6 hg6 hat; have S6 := hid (two_facts1 (S5.out.2.1.grown HG6.out (fun e => by have := (S5.out.2.2.1.row_lt _ e.symm).1; omega))); obtain ⟨cg, fg⟩ := S6.out; refine hK.out _ _ ?_ (fun hHeld => ?_); (rw [hn1] at cg; exact cg); clear hK K; (try simp only [Act.put, List.setIfInBounds_toArray, List.set_cons_zero, List.set_cons_succ])
  refine regF_last 7 rfl rfl (by kernel_rfl) (fun K hK => ?_); go_simp; skip; refine hK.out _ _ (fun _ => ?_); clear hK K; (try simp only [Act.put, List.setIfInBounds_toArray, List.set_cons_zero, List.set_cons_succ])
  refine wpAnyF_done (by kernel_rfl) ?_ _

  go_wp2
  refine bodyPost_ret (results_none rfl _ _ _) rfl ?_
  refine ⟨⟨_, rfl⟩, below_push B5.out S5.out HG6.out _, D', c', ?_⟩
  have := S5.out.push hdr (by rw [hn1]; exact HO6.out) HG6.out
  rw [hn1] at this
  rw [← List.append_assoc]
  exact this

theorem sides_len8 {pss : List (List UInt8)} {i : Nat} (h : pss.length ≤ 256) (hi : i < pss.length) : (sidesT pss i).length ≤ 8 := by
  rw [(sides_fit pss.length pss i pss[i] (Nat.le_refl _) (List.getElem?_eq_getElem hi)).1]
  exact turns_len 8 _ _ (by omega) (by omega)
theorem sides1_any (W0 : World) (hK0 : KOk W0) (g : Nat) (hg : W0.heap.size = g) (D : Option Addr) (c : Nat) (ds : List (List UInt8)) (hd : ds.length ≤ 800) : ∀ (N : Nat) (P : Option Addr) (np pc i : Nat) (pss : List (List UInt8)) (w : World), np ≤ N → 1 ≤ np → np ≤ 256 → np ≤ pc → i < np → Parts W0 P np pss → (∀ p ∈ pss, p.length ≤ 5000) → Below g W0 w → SSt w g D c ds →
    Calls Tryd.prog 30 #[.slice P np pc, .int .i64 i, .pointer (some ⟨g + 1, 0, none⟩), .pointer (some ⟨g, 0, none⟩)] w (SPost W0 g ds (sidesT pss i))
  | N, P, np, pc, i, pss, w, hN, h1, h256, hpc, hi, hP, hl, hB, hS => by
    have hle := hP.1
    match np, hN, h1, h256, hpc, hi, hP, hle with
    | 0, _, h1, _, _, _, _, _ => omega
    | 1, hN, h1, h256, hpc, hi, hP, hle =>
      rw [sidesT_one (by omega)]
      exact sides_one W0 g P pc i c D ds w hB hS
    | k + 2, hN, h1, h256, hpc, hi, hP, hle =>
      obtain ⟨b, o, _, _, _, _, rfl, _⟩ := hP.at_ (k := 0) (by omega)
      have hfb := frontN_bounds (n := k + 2) (by omega)
      match N, hN with
      | 0, hN => omega
      | N + 1, hN =>
        by_cases hf : i < frontN (k + 2)
        · have htl : (pss.take (frontN (k + 2))).length = frontN (k + 2) := by rw [List.length_take]; omega
          have h8 := sides_len8 (pss := pss.take (frontN (k + 2))) (i := i) (by omega) (by omega)
          rw [sidesT_lt (by omega) (by rw [hle]; exact hf), hle]
          exact sides_lt W0 hK0 g hg b o (k + 2) pc _ i c D ds _ pss w rfl (by omega) h256 hpc hf hi hP hl hB hS (by rw [List.length_append]; omega)
            (fun W hb hs => sides1_any W0 hK0 g hg D c ds hd N _ _ pc i _ W (by omega) (by omega) (by omega) (by omega) hf (parts_take hP (by omega)) (fun p hp => hl p (List.mem_of_mem_take hp)) hb hs)
        · have htl : (pss.drop (frontN (k + 2))).length = k + 2 - frontN (k + 2) := by rw [List.length_drop, hle]
          have h8 := sides_len8 (pss := pss.drop (frontN (k + 2))) (i := i - frontN (k + 2)) (by omega) (by omega)
          rw [sidesT_ge (by omega) (by rw [hle]; exact hf), hle]
          have hci : ((i - frontN (k + 2) : Nat) : Int) = (i : Int) - (frontN (k + 2) : Nat) := by omega
          exact sides_ge W0 hK0 g hg b o (k + 2) pc _ i c D ds _ pss w rfl (by omega) h256 hpc hf hi hP hl hB hS (by rw [List.length_append]; omega)
            (fun W hb hs => by
              have ih := sides1_any W0 hK0 g hg D c ds hd N (some ⟨b, o + frontN (k + 2), none⟩) (k + 2 - frontN (k + 2)) (pc - frontN (k + 2)) (i - frontN (k + 2)) (pss.drop (frontN (k + 2))) W (by omega) (by omega) (by omega) (by omega) (by omega) (parts_drop hP) (fun p hp => hl p (List.mem_of_mem_drop hp)) hb hs
              rwa [hci] at ih)

/-- What Sides answers. -/
def sidesE (pss : List (List UInt8)) (i : Int) : List (List UInt8) × Int := if listB pss = false then ([], 8) else if i < 0 ∨ i ≥ pss.length then ([], 2) else (sidesT pss i.toNat, 0)
/-- Two results: digests, an error. -/
def GivesDsE (w : World) (p : List (List UInt8) × Int) (e : Ending) (w' : World) : Prop := ∃ D c, e = .returned (.tuple #[.slice D p.1.length c, .int .i64 p.2]) ∧ Digs w' D p.1.length p.1 ∧ p.1.length ≤ c ∧ Below w.heap.size w w'
theorem Digs.nil (w : World) (A : Option Addr) : Digs w A 0 [] := ⟨fun d hd => by simp at hd, rfl, fun h => by omega⟩

set_option maxRecDepth 100000 in
set_option maxHeartbeats 4000000 in
theorem sidesE_any (P : Option Addr) (np pc : Nat) (i : Int) (pss : List (List UInt8)) (w : World) (hP : Parts w P np pss) (hpc : np ≤ pc) (hK : KOk w) :
    Calls Tryd.prog 16 #[.slice P np pc, .int .i64 i] w (GivesDsE w (sidesE pss i)) := by
  have HP := hid hP
  have HK := hid hK
  have hle := hP.1
  have hLi := hid (fun W (h : Parts W P np pss) => list_any P np pc pss W h _ rfl)
  unfold sidesE
  by_cases hb : listB pss = false
  · rw [if_pos hb]
    rw [hb] at hLi
    clear hP hK hb
    go_enter Tryd.func16, Tryd.ntmps16
    go_wp2_with (first
      | ((with_reducible refine (hLi.out _ HP.out).mono ?_); rintro e w1 ⟨rfl, hv⟩; subst hv))
    go_ret2
    exact ⟨_, _, rfl, Digs.nil _ _, Nat.zero_le _, Below.refl _ _⟩
  have hbt : listB pss = true := by simpa using hb
  rw [if_neg hb]
  rw [hbt] at hLi
  by_cases hi : i < 0 ∨ i ≥ pss.length
  · rw [if_pos hi]
    rw [hle] at hi
    clear hP hK hb hbt hle
    by_cases t1 : i < 0
    · go_enter Tryd.func16, Tryd.ntmps16
      go_wp2_with (first
        | ((with_reducible refine (hLi.out _ HP.out).mono ?_); rintro e w1 ⟨rfl, hv⟩; subst hv))
      go_ret2
      exact ⟨_, _, rfl, Digs.nil _ _, Nat.zero_le _, Below.refl _ _⟩
    · have t2 : i ≥ (np : Int) := by omega
      have t3 : ¬ i < (np : Int) := by omega
      clear hi
      go_enter Tryd.func16, Tryd.ntmps16
      go_wp2_with (first
        | ((with_reducible refine (hLi.out _ HP.out).mono ?_); rintro e w1 ⟨rfl, hv⟩; subst hv))
      go_ret2
      exact ⟨_, _, rfl, Digs.nil _ _, Nat.zero_le _, Below.refl _ _⟩
  rw [if_neg hi]
  obtain ⟨h256, hlens⟩ := listB_parts hbt
  obtain ⟨n, rfl⟩ := Int.eq_ofNat_of_zero_le (show 0 ≤ i by omega)
  have hin : n < np := by omega
  have hInd := hid (fun W0 (k : KOk W0) (h : Parts W0 P np pss) w (hB : Below W0.heap.size W0 w) (hS : SSt w W0.heap.size none 0 []) => sides1_any W0 k W0.heap.size rfl none 0 [] (by simp) np P np pc n pss w (Nat.le_refl _) (by omega) (by omega) hpc hin h (fun p hp => by have := hlens p hp; omega) hB hS)
  have ti : ¬ (n : Int) < 0 := by omega
  have tn : ¬ (n : Int) ≥ np := by omega
  have tn2 : (n : Int) < np := by omega
  rw [show ((n : Int)).toNat = n from rfl]
  generalize sidesT pss n = L at *
  clear hP hK hb hbt hi hle hlens
  go_enter Tryd.func16, Tryd.ntmps16
  go_upto_region 7 with (first
    | ((with_reducible refine (hLi.out _ HP.out).mono ?_); rintro e w1 ⟨rfl, hv⟩; subst hv))
  obtain ⟨w2, hw2⟩ : ∃ w2, w1.alloc (.cells #[.slice none 0 0] 25) = w2 := ⟨_, rfl⟩
  have s2 : w2.heap.size = w1.heap.size + 1 := by rw [← hw2]; simp
  have q2 : Below w1.heap.size w1 w2 := by rw [← hw2]; exact below_alloc1 _ _
  obtain ⟨w3, hw3⟩ : ∃ w3, w2.alloc (.cells #[.nilFunc] 53) = w3 := ⟨_, rfl⟩
  have s3 : w3.heap.size = w1.heap.size + 2 := by rw [← hw3]; simp [s2]
  have q3 : Below w1.heap.size w1 w3 := by rw [← hw3]; exact below_chain q2 (below_alloc1 _ _)
  have bO : Blk w2 w1.heap.size 25 #[.slice none 0 0] := by rw [← hw2]; exact Blk.new _ _ _
  have bF : Blk w3 (w1.heap.size + 1) 53 #[.nilFunc] := by rw [← hw3, ← s2]; exact Blk.new _ _ _
  have bO3 : Blk w3 w1.heap.size 25 #[.slice none 0 0] := by rw [← hw3]; exact bO.alloc _
  rw [hw2, hw3]
  obtain ⟨cf, ff⟩ := two_facts1 bF
  have hF4 := hid (bF.set_ 0 (.func (.func 30) #[] #[.pointer (some ⟨w1.heap.size + 1, 0, none⟩), .pointer (some ⟨w1.heap.size, 0, none⟩)]))
  have hO4 := hid (bO3.far (b := w1.heap.size + 1) (i := 0) (by omega) (.func (.func 30) #[] #[.pointer (some ⟨w1.heap.size + 1, 0, none⟩), .pointer (some ⟨w1.heap.size, 0, none⟩)]))
  have hQ4 := hid (q3.trans (((Chg.refl w3 (fun b => b = w1.heap.size + 1)).setCell (g := w1.heap.size + 1) (i := 0) (.func (.func 30) #[] #[.pointer (some ⟨w1.heap.size + 1, 0, none⟩), .pointer (some ⟨w1.heap.size, 0, none⟩)]) (.inl rfl)).below (B := w1.heap.size) (by omega) (fun b e => by omega)))
  have hs4 := hid (show (w3.setCell ⟨w1.heap.size + 1, 0, none⟩ (.func (.func 30) #[] #[.pointer (some ⟨w1.heap.size + 1, 0, none⟩), .pointer (some ⟨w1.heap.size, 0, none⟩)])).heap.size = w3.heap.size by simp)
  clear hw2 hw3 bO bF bO3 q2 q3
  go_upto_region 8 with fail
  obtain ⟨w5, hw5⟩ : ∃ w5, w3.setCell ⟨w1.heap.size + 1, 0, none⟩ (.func (.func 30) #[] #[.pointer (some ⟨w1.heap.size + 1, 0, none⟩), .pointer (some ⟨w1.heap.size, 0, none⟩)]) = w5 := ⟨_, rfl⟩
  rw [hw5] at hF4 hO4 hQ4 hs4 ⊢
  clear hw5 cf ff
  have hS5 := hid (show SSt w5 w1.heap.size none 0 [] from ⟨hF4.out, hO4.out, Go.Proofs.YtheljogmnalbmaaDoor.Own.nil _ _ _ _ _, fun d hd => by simp at hd, by have := hs4.out; omega⟩)
  obtain ⟨c5, f5⟩ := two_facts1 hF4.out
  clear hF4 hO4 hs4
  go_wp2_with (first
    | ((with_reducible refine (hInd.out w1 HK.out HP.out w5 hQ4.out hS5.out).mono ?_); rintro e w6 ⟨⟨vv, rfl⟩, hB6, D6, c6', hS6⟩; rw [List.nil_append] at hS6; have B6 := hid hB6; have S6 := hid hS6; clear hB6 hS6; have e6 := (two_facts1 S6.out.2.1).1))
  go_ret2
  exact ⟨D6, c6', rfl, ⟨S6.out.2.2.2.1, S6.out.2.2.1.rd.low (Nat.zero_le _)⟩, S6.out.2.2.1.cap.1, B6.out⟩
end Go.Proofs.YtheljogmnalbmaaDoor
