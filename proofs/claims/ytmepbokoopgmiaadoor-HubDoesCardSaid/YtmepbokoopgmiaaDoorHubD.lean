/-
  Contract of hub.Join. The gap stands in its variable.
-/
import Derived.Test.YtmepbokoopgmiaaDoorHubB
import Derived.Test.YtmepbokoopgmiaaDoorHubC
import Derived.Test.YtmepbokoopgmiaaDoorTapE
namespace Go.Proofs.YtmepbokoopgmiaaDoor
open Go.RowKit
set_option linter.unusedSimpArgs false
set_option linter.unusedVariables false

/-- What Join answers. -/
def GivesJ (w : World) (r : Hub × Int × Int) (e : Ending) (w' : World) : Prop :=
  ∃ D m c rs, e = .returned (.tuple #[.agg #[.int .i64 r.1.1, .slice D m c], .int .i64 r.2.1, .int .i64 r.2.2]) ∧ subs rs = r.1.2 ∧ HOwn w' w.heap.size D m c rs ∧ Below w.heap.size w w'
theorem HOwn.setOut {w : World} {lo n c : Nat} {A : Option Addr} {rs : List RS} (h : HOwn w lo A n c rs) {g : Nat} (u v : Value) (hg : g < lo) : HOwn ((w.setCell ⟨g, 0, none⟩ u).setCell ⟨g, 1, none⟩ v) lo A n c rs :=
  ⟨h.1.chg (chg_both w g u v) (fun b hb e => by omega), fun r hr => (h.2 r hr).chg (chg_both w g u v) (fun b hb e => by omega)⟩
theorem HOwn.grown {w w' : World} {lo n c : Nat} {A : Option Addr} {rs : List RS} (h : HOwn w lo A n c rs) {g : Nat} (hc : w.grownBy w' (some g)) (hg : g < lo) : HOwn w' lo A n c rs :=
  ⟨h.1.chg (Chg.of_grown hc) (fun b hb e => by have := Option.some.inj e; omega), fun r hr => (h.2 r hr).chg (Chg.of_grown hc) (fun b hb e => by have := Option.some.inj e; omega)⟩
theorem below_both {w0 w : World} {g : Nat} (h : Below w0.heap.size w0 w) (u v : Value) (hg : w0.heap.size ≤ g) : Below w0.heap.size w0 ((w.setCell ⟨g, 0, none⟩ u).setCell ⟨g, 1, none⟩ v) :=
  h.trans ((chg_both w g u v).below h.size (fun b e => by omega))
theorem HOwn.chg {w w' : World} {lo n c : Nat} {A : Option Addr} {rs : List RS} {bad : Nat → Prop} (h : HOwn w lo A n c rs) (hc : Chg w w' bad) (hg : ∀ b, lo ≤ b → ¬ bad b) : HOwn w' lo A n c rs :=
  ⟨h.1.chg hc hg, fun r hr => (h.2 r hr).chg hc (fun b hb e => absurd e (hg b hb))⟩
theorem SubOwn.regrow {w w' : World} {lo d d' : Nat} {D D' : Option Addr} {r : RS} (h : SubOwn w lo (rowOf D d) r) (hg : w.grownBy w' (rowOf D d)) (hat : rowOf D' d' = rowOf D d ∨ rowOf D' d' = none ∨ rowOf D' d' = some w.heap.size) : SubOwn w' lo (rowOf D' d') r := by
  refine ⟨h.1, h.2.1.keepB (by omega) (Chg.of_grown hg) fun hm b o e hbad => h.2.2 hm b o e hbad.symm, fun hm b o e hb => ?_⟩
  obtain ⟨b', o', e', hlo, hlt, _⟩ := h.2.1.1.lt (by omega)
  rw [e] at e'
  cases e'
  rcases hat with h1 | h1 | h1
  · exact h.2.2 hm b o e (hb.trans h1)
  · rw [h1] at hb
    cases hb
  · rw [h1] at hb
    have := Option.some.inj hb
    omega
theorem HOwn.push {w w' : World} {lo m d d' : Nat} {D D' : Option Addr} {rs : List RS} (h : HOwn w lo D m d rs) (s : Sub) (hs : s.2.2.1 = []) (l : List Value) (hl : l = rsL (s, none, 0, 0)) (ho : Own w' lo 53 4 D' (m + 1) d' (rssL rs ++ l)) (hg : w.grownBy w' (rowOf D d))
    (hat : rowOf D' d' = rowOf D d ∨ rowOf D' d' = none ∨ rowOf D' d' = some w.heap.size) : HOwn w' lo D' (m + 1) d' (rs ++ [(s, none, 0, 0)]) := by
  refine ⟨?_, fun r hr => ?_⟩
  · rw [rssL_app]
    rw [hl] at ho
    simpa [rssL] using ho
  · rcases List.mem_append.1 hr with hr | hr
    · exact (h.2 r hr).regrow hg hat
    · simp only [List.mem_singleton] at hr
      subst hr
      refine ⟨by rw [hs]; exact (fun x hx => by cases hx), ?_, fun h => absurd h (Nat.lt_irrefl 0)⟩
      simp only [hs]
      exact Fr.nil _ _ _ _
theorem HOwn.row {w : World} {lo m d : Nat} {D : Option Addr} {rs : List RS} (h : HOwn w lo D m d rs) : ∀ g, rowOf D d = some g → lo ≤ g := fun g hg => (h.1.row_lt g hg).1
theorem sub_count {w : World} {lo m d n k : Nat} {D : Option Addr} {rs rs' : List RS} (h : subs rs' = subs rs) (ho : HOwn w lo D m d rs') (hl : rs.length = n) (hn : n ≤ k) : m ≤ k := by
  have h1 := ho.len
  have h2 := congrArg List.length h
  simp only [subs, List.length_map] at h2
  omega
theorem sub_built (a b : Int) (w : World) : (Instr.build 53 #[(0, .int .i64 a), (1, .int .i64 b)]).run Tryd.prog w = .ok (.agg #[.int .i64 a, .int .i64 b, .slice none 0 0, .bool false]) w := run_build w _ _ _ (by kernel_rfl)
theorem sub_bslice (a b : Int) (w : World) : (Instr.buildSlice 22 1 #[(0, .agg #[.int .i64 a, .int .i64 b, .slice none 0 0, .bool false])]).run Tryd.prog w = .ok (.slice (some ⟨w.heap.size, 0, none⟩) 1 1) (w.alloc (.cells #[.int .i64 a, .int .i64 b, .slice none 0 0, .bool false] 53)) := by
  obtain ⟨i0, hi0, hz0, hz1, hz2⟩ := info_parts sub_info
  refine run_buildSlice w _ _ _ _ _ i0 _ Tryd.underlying22 hi0 hz0 (by rw [hz1]; omega) (by rw [hz1]; omega) ?_
  rw [hz1]
  have := Great.fill_whole (s := 4) (by omega) [Value.agg #[.int .i64 a, .int .i64 b, .slice none 0 0, .bool false]] ((Array.range (1 * 4)).map ((Value.agg zeroS).cells[· % (Value.agg zeroS).cells.size]!)) (fun v hv => by
    simp only [List.mem_singleton] at hv
    subst hv
    rfl) (by simp)
  exact this
theorem hubMay_its {rs : List RS} {nx : Int} (h : hubMay (nx, subs rs) = true) : ∀ s ∈ subs rs, s.2.2.1.length ≤ 1000 := fun s hs => by
  have := subsMay_lt (hubMay_parts h).2.2 s hs
  have := itsMay_len this.2.2.2
  omega
section
variable {P : Program}
/-- A value built of two. -/
theorem wpList_b2 {ops : Array Oper} {rest : List Oper} {o : Oper} {a : Act} {w : World} {Q : Exit → Act → World → Prop} (hg : o.guard = none) (t : TypeId) (i j : Nat) (y z : Operand) (ho : o.op = .build t #[(i, y), (j, z)]) (u v : Value) (hu : a.eval y = u) (hv : a.eval z = v) (cells : Array Value)
    (hx : (Instr.build t #[(i, u), (j, v)]).run P w = .ok (.agg cells) w)
    (h : wpList P ops Q rest (a.put o.dst (.agg cells)) w) : wpList P ops Q (o :: rest) a w := by
  subst hu hv
  refine wpList_plain hg fun K hK => ?_
  unfold Oper.wp execOp
  simp only [ho, List.map_toArray, List.map_cons, List.map_nil, Sem.run_bind, Sem.run_pure, Result.andThen_ok, hx]
  exact hK _ _ h
end

set_option maxRecDepth 100000 in
set_option maxHeartbeats 4000000 in
theorem hjoin_bad (nx : Int) (A : Option Addr) (n c : Nat) (rs : List RS) (most fr : Int) (w : World) (hr : HRd w A n rs) (hG : GOk w) (hm : hubMay (nx, subs rs) = false) :
    Calls Tryd.prog 11 #[.agg #[.int .i64 nx, .slice A n c], .int .i64 most, .int .i64 fr] w (GivesJ w (zeroHub, 0, 8)) := by
  have hC := hid (fun W h k => hcheck_lit 8 nx A n c rs (by rw [hm]; rfl) W h k)
  have HR := hid hr
  have HG := hid hG
  have hl := hid hr.len
  clear hr hG
  go_enter Tryd.func11, Tryd.ntmps11
  go_upto_region 1 with (first
    | (refine wpList_bx rfl 24 _ rfl #[.int .i64 nx, .slice A n c] rfl ?_; intro w1 hB1 hb1 hy; have hz1 := hid hy; clear hy)
    | ((with_reducible refine at_alloc 24 ?_); refine wpList_al rfl 24 rfl _ (hub_zero _) ?_; intro w2 hB2 hb2 hy; have hz2 := hid hy; clear hy))
  have X0 := hid (below_chain hb1 hb2)
  have X1 := hid (hB1.belowS hb2)
  have X2 := hid hB2
  have hs1 : w.heap.size < w1.heap.size := by have := hz1.out; omega
  have hs2 := hid hB2.lt
  clear hB1 hb1 hz1 hB2 hb2 hz2
  generalize w1.heap.size = g2 at *
  obtain ⟨a0, a1, a2, a3⟩ := two_facts X1.out
  obtain ⟨c0, c1, c2, c3⟩ := two_facts X2.out
  go_wp2_with (first
    | ((with_reducible refine (hC.out _ (HR.out.below X0.out) (HG.out.below X0.out)).mono ?_); rintro e w3 ⟨rfl, hb3⟩; clear a0 a1 a2 a3 c0 c1 c2 c3; obtain ⟨a0, a1, a2, a3⟩ := two_facts (X1.out.belowS hb3); obtain ⟨c0, c1, c2, c3⟩ := two_facts (X2.out.belowS hb3)))
  have B := (X2.out.belowS hb3).both (c := .int .i64 0) (d := .slice none 0 0)
  have hbf := below_both (g := g2) (below_chain X0.out hb3) (.int .i64 0) (.slice none 0 0) (by omega)
  generalize (w3.setCell ⟨g2, 0, none⟩ (.int .i64 0)).setCell ⟨g2, 1, none⟩ (.slice none 0 0) = wf at *
  obtain ⟨g0, g1, _, _⟩ := two_facts B
  exact bodyPost_ret (v := .tuple #[.agg #[.int .i64 0, .slice none 0 0], .int .i64 0, .int .i64 8]) (by simp [results, Tryd.f11, go_sem, g0, g1]) rfl ⟨none, 0, 0, [], rfl, rfl, HOwn.nil _ _ _, hbf⟩

set_option maxRecDepth 100000 in
set_option maxHeartbeats 4000000 in
theorem hjoin_low (nx : Int) (A : Option Addr) (n c : Nat) (rs : List RS) (most fr : Int) (w : World) (hr : HRd w A n rs) (hG : GOk w) (hm : hubMay (nx, subs rs) = true) (h1 : most < 1) :
    Calls Tryd.prog 11 #[.agg #[.int .i64 nx, .slice A n c], .int .i64 most, .int .i64 fr] w (GivesJ w (zeroHub, 0, 2)) := by
  have hC := hid (fun W h k => hcheck_lit 0 nx A n c rs (by rw [hm]; rfl) W h k)
  have HR := hid hr
  have HG := hid hG
  have hl := hid hr.len
  clear hr hG
  go_enter Tryd.func11, Tryd.ntmps11
  go_upto_region 1 with (first
    | (refine wpList_bx rfl 24 _ rfl #[.int .i64 nx, .slice A n c] rfl ?_; intro w1 hB1 hb1 hy; have hz1 := hid hy; clear hy)
    | ((with_reducible refine at_alloc 24 ?_); refine wpList_al rfl 24 rfl _ (hub_zero _) ?_; intro w2 hB2 hb2 hy; have hz2 := hid hy; clear hy))
  have X0 := hid (below_chain hb1 hb2)
  have X1 := hid (hB1.belowS hb2)
  have X2 := hid hB2
  have hs1 : w.heap.size < w1.heap.size := by have := hz1.out; omega
  have hs2 := hid hB2.lt
  clear hB1 hb1 hz1 hB2 hb2 hz2
  generalize w1.heap.size = g2 at *
  obtain ⟨a0, a1, a2, a3⟩ := two_facts X1.out
  obtain ⟨c0, c1, c2, c3⟩ := two_facts X2.out
  go_wp2_with (first
    | ((with_reducible refine (hC.out _ (HR.out.below X0.out) (HG.out.below X0.out)).mono ?_); rintro e w3 ⟨rfl, hb3⟩; clear a0 a1 a2 a3 c0 c1 c2 c3; obtain ⟨a0, a1, a2, a3⟩ := two_facts (X1.out.belowS hb3); obtain ⟨c0, c1, c2, c3⟩ := two_facts (X2.out.belowS hb3)))
  have B := (X2.out.belowS hb3).both (c := .int .i64 0) (d := .slice none 0 0)
  have hbf := below_both (g := g2) (below_chain X0.out hb3) (.int .i64 0) (.slice none 0 0) (by omega)
  generalize (w3.setCell ⟨g2, 0, none⟩ (.int .i64 0)).setCell ⟨g2, 1, none⟩ (.slice none 0 0) = wf at *
  obtain ⟨g0, g1, _, _⟩ := two_facts B
  exact bodyPost_ret (v := .tuple #[.agg #[.int .i64 0, .slice none 0 0], .int .i64 0, .int .i64 2]) (by simp [results, Tryd.f11, go_sem, g0, g1]) rfl ⟨none, 0, 0, [], rfl, rfl, HOwn.nil _ _ _, hbf⟩

set_option maxRecDepth 100000 in
set_option maxHeartbeats 4000000 in
theorem hjoin_high (nx : Int) (A : Option Addr) (n c : Nat) (rs : List RS) (most fr : Int) (w : World) (hr : HRd w A n rs) (hG : GOk w) (hm : hubMay (nx, subs rs) = true) (h1 : 16 < most) :
    Calls Tryd.prog 11 #[.agg #[.int .i64 nx, .slice A n c], .int .i64 most, .int .i64 fr] w (GivesJ w (zeroHub, 0, 2)) := by
  have hC := hid (fun W h k => hcheck_lit 0 nx A n c rs (by rw [hm]; rfl) W h k)
  have HR := hid hr
  have HG := hid hG
  have hl := hid hr.len
  clear hr hG
  go_enter Tryd.func11, Tryd.ntmps11
  go_upto_region 1 with (first
    | (refine wpList_bx rfl 24 _ rfl #[.int .i64 nx, .slice A n c] rfl ?_; intro w1 hB1 hb1 hy; have hz1 := hid hy; clear hy)
    | ((with_reducible refine at_alloc 24 ?_); refine wpList_al rfl 24 rfl _ (hub_zero _) ?_; intro w2 hB2 hb2 hy; have hz2 := hid hy; clear hy))
  have X0 := hid (below_chain hb1 hb2)
  have X1 := hid (hB1.belowS hb2)
  have X2 := hid hB2
  have hs1 : w.heap.size < w1.heap.size := by have := hz1.out; omega
  have hs2 := hid hB2.lt
  clear hB1 hb1 hz1 hB2 hb2 hz2
  generalize w1.heap.size = g2 at *
  obtain ⟨a0, a1, a2, a3⟩ := two_facts X1.out
  obtain ⟨c0, c1, c2, c3⟩ := two_facts X2.out
  go_wp2_with (first
    | ((with_reducible refine (hC.out _ (HR.out.below X0.out) (HG.out.below X0.out)).mono ?_); rintro e w3 ⟨rfl, hb3⟩; clear a0 a1 a2 a3 c0 c1 c2 c3; obtain ⟨a0, a1, a2, a3⟩ := two_facts (X1.out.belowS hb3); obtain ⟨c0, c1, c2, c3⟩ := two_facts (X2.out.belowS hb3)))
  have B := (X2.out.belowS hb3).both (c := .int .i64 0) (d := .slice none 0 0)
  have hbf := below_both (g := g2) (below_chain X0.out hb3) (.int .i64 0) (.slice none 0 0) (by omega)
  generalize (w3.setCell ⟨g2, 0, none⟩ (.int .i64 0)).setCell ⟨g2, 1, none⟩ (.slice none 0 0) = wf at *
  obtain ⟨g0, g1, _, _⟩ := two_facts B
  exact bodyPost_ret (v := .tuple #[.agg #[.int .i64 0, .slice none 0 0], .int .i64 0, .int .i64 2]) (by simp [results, Tryd.f11, go_sem, g0, g1]) rfl ⟨none, 0, 0, [], rfl, rfl, HOwn.nil _ _ _, hbf⟩

set_option maxRecDepth 100000 in
set_option maxHeartbeats 4000000 in
theorem hjoin_from (nx : Int) (A : Option Addr) (n c : Nat) (rs : List RS) (most fr : Int) (w : World) (hr : HRd w A n rs) (hG : GOk w) (hm : hubMay (nx, subs rs) = true) (h1 : 1 ≤ most) (h2 : most ≤ 16) (h3 : isNum fr = false) :
    Calls Tryd.prog 11 #[.agg #[.int .i64 nx, .slice A n c], .int .i64 most, .int .i64 fr] w (GivesJ w (zeroHub, 0, 2)) := by
  have hC := hid (fun W h k => hcheck_lit 0 nx A n c rs (by rw [hm]; rfl) W h k)
  have HR := hid hr
  have HG := hid hG
  have hl := hid hr.len
  have hN := hid (fun W => number_lit false fr h3 W)
  clear h3
  clear hr hG
  go_enter Tryd.func11, Tryd.ntmps11
  go_upto_region 1 with (first
    | (refine wpList_bx rfl 24 _ rfl #[.int .i64 nx, .slice A n c] rfl ?_; intro w1 hB1 hb1 hy; have hz1 := hid hy; clear hy)
    | ((with_reducible refine at_alloc 24 ?_); refine wpList_al rfl 24 rfl _ (hub_zero _) ?_; intro w2 hB2 hb2 hy; have hz2 := hid hy; clear hy))
  have X0 := hid (below_chain hb1 hb2)
  have X1 := hid (hB1.belowS hb2)
  have X2 := hid hB2
  have hs1 : w.heap.size < w1.heap.size := by have := hz1.out; omega
  have hs2 := hid hB2.lt
  clear hB1 hb1 hz1 hB2 hb2 hz2
  generalize w1.heap.size = g2 at *
  obtain ⟨a0, a1, a2, a3⟩ := two_facts X1.out
  obtain ⟨c0, c1, c2, c3⟩ := two_facts X2.out
  go_wp2_with (first
    | ((with_reducible refine (hC.out _ (HR.out.below X0.out) (HG.out.below X0.out)).mono ?_); rintro e w3 ⟨rfl, hb3⟩; clear a0 a1 a2 a3 c0 c1 c2 c3; obtain ⟨a0, a1, a2, a3⟩ := two_facts (X1.out.belowS hb3); obtain ⟨c0, c1, c2, c3⟩ := two_facts (X2.out.belowS hb3))
    | ((with_reducible refine (hN.out _).mono ?_); rintro e w6 ⟨rfl, e6⟩; replace e6 := e6.symm; subst e6))
  have B := (X2.out.belowS hb3).both (c := .int .i64 0) (d := .slice none 0 0)
  have hbf := below_both (g := g2) (below_chain X0.out hb3) (.int .i64 0) (.slice none 0 0) (by omega)
  generalize (w3.setCell ⟨g2, 0, none⟩ (.int .i64 0)).setCell ⟨g2, 1, none⟩ (.slice none 0 0) = wf at *
  obtain ⟨g0, g1, _, _⟩ := two_facts B
  exact bodyPost_ret (v := .tuple #[.agg #[.int .i64 0, .slice none 0 0], .int .i64 0, .int .i64 2]) (by simp [results, Tryd.f11, go_sem, g0, g1]) rfl ⟨none, 0, 0, [], rfl, rfl, HOwn.nil _ _ _, hbf⟩

set_option maxRecDepth 100000 in
set_option maxHeartbeats 4000000 in
theorem hjoin_full (nx : Int) (A : Option Addr) (n c : Nat) (rs : List RS) (most fr : Int) (w : World) (hr : HRd w A n rs) (hG : GOk w) (hm : hubMay (nx, subs rs) = true) (h1 : 1 ≤ most) (h2 : most ≤ 16) (h3 : isNum fr = true) (h4 : most ≤ n) :
    Calls Tryd.prog 11 #[.agg #[.int .i64 nx, .slice A n c], .int .i64 most, .int .i64 fr] w (GivesJ w (zeroHub, 0, 9)) := by
  have hC := hid (fun W h k => hcheck_lit 0 nx A n c rs (by rw [hm]; rfl) W h k)
  have HR := hid hr
  have HG := hid hG
  have hl := hid hr.len
  have hN := hid (fun W => number_lit true fr h3 W)
  clear h3
  clear hr hG
  go_enter Tryd.func11, Tryd.ntmps11
  go_upto_region 1 with (first
    | (refine wpList_bx rfl 24 _ rfl #[.int .i64 nx, .slice A n c] rfl ?_; intro w1 hB1 hb1 hy; have hz1 := hid hy; clear hy)
    | ((with_reducible refine at_alloc 24 ?_); refine wpList_al rfl 24 rfl _ (hub_zero _) ?_; intro w2 hB2 hb2 hy; have hz2 := hid hy; clear hy))
  have X0 := hid (below_chain hb1 hb2)
  have X1 := hid (hB1.belowS hb2)
  have X2 := hid hB2
  have hs1 : w.heap.size < w1.heap.size := by have := hz1.out; omega
  have hs2 := hid hB2.lt
  clear hB1 hb1 hz1 hB2 hb2 hz2
  generalize w1.heap.size = g2 at *
  obtain ⟨a0, a1, a2, a3⟩ := two_facts X1.out
  obtain ⟨c0, c1, c2, c3⟩ := two_facts X2.out
  go_wp2_with (first
    | ((with_reducible refine (hC.out _ (HR.out.below X0.out) (HG.out.below X0.out)).mono ?_); rintro e w3 ⟨rfl, hb3⟩; clear a0 a1 a2 a3 c0 c1 c2 c3; obtain ⟨a0, a1, a2, a3⟩ := two_facts (X1.out.belowS hb3); obtain ⟨c0, c1, c2, c3⟩ := two_facts (X2.out.belowS hb3))
    | ((with_reducible refine (hN.out _).mono ?_); rintro e w6 ⟨rfl, e6⟩; replace e6 := e6.symm; subst e6))
  have B := (X2.out.belowS hb3).both (c := .int .i64 0) (d := .slice none 0 0)
  have hbf := below_both (g := g2) (below_chain X0.out hb3) (.int .i64 0) (.slice none 0 0) (by omega)
  generalize (w3.setCell ⟨g2, 0, none⟩ (.int .i64 0)).setCell ⟨g2, 1, none⟩ (.slice none 0 0) = wf at *
  obtain ⟨g0, g1, _, _⟩ := two_facts B
  exact bodyPost_ret (v := .tuple #[.agg #[.int .i64 0, .slice none 0 0], .int .i64 0, .int .i64 9]) (by simp [results, Tryd.f11, go_sem, g0, g1]) rfl ⟨none, 0, 0, [], rfl, rfl, HOwn.nil _ _ _, hbf⟩

set_option maxRecDepth 100000 in
set_option maxHeartbeats 4000000 in
theorem hjoin_far (nx : Int) (A : Option Addr) (n c : Nat) (rs : List RS) (most fr : Int) (w : World) (hr : HRd w A n rs) (hG : GOk w) (hm : hubMay (nx, subs rs) = true) (h1 : 1 ≤ most) (h2 : most ≤ 16) (h3 : isNum fr = true) (h4 : n < most) (h5 : isNum (nx + 1) = false) :
    Calls Tryd.prog 11 #[.agg #[.int .i64 nx, .slice A n c], .int .i64 most, .int .i64 fr] w (GivesJ w (zeroHub, 0, 9)) := by
  have hC := hid (fun W h k => hcheck_lit 0 nx A n c rs (by rw [hm]; rfl) W h k)
  have HR := hid hr
  have HG := hid hG
  have hl := hid hr.len
  have hN := hid (fun W => number_lit true fr h3 W)
  have hN2 := hid (fun W => number_lit false (nx + 1) h5 W)
  have hnx := isNum_iff.1 (hubMay_parts hm).1
  simp only at hnx
  clear h3 h5
  clear hr hG
  go_enter Tryd.func11, Tryd.ntmps11
  go_upto_region 1 with (first
    | (refine wpList_bx rfl 24 _ rfl #[.int .i64 nx, .slice A n c] rfl ?_; intro w1 hB1 hb1 hy; have hz1 := hid hy; clear hy)
    | ((with_reducible refine at_alloc 24 ?_); refine wpList_al rfl 24 rfl _ (hub_zero _) ?_; intro w2 hB2 hb2 hy; have hz2 := hid hy; clear hy))
  have X0 := hid (below_chain hb1 hb2)
  have X1 := hid (hB1.belowS hb2)
  have X2 := hid hB2
  have hs1 : w.heap.size < w1.heap.size := by have := hz1.out; omega
  have hs2 := hid hB2.lt
  clear hB1 hb1 hz1 hB2 hb2 hz2
  generalize w1.heap.size = g2 at *
  obtain ⟨a0, a1, a2, a3⟩ := two_facts X1.out
  obtain ⟨c0, c1, c2, c3⟩ := two_facts X2.out
  go_wp2_with (first
    | ((with_reducible refine (hC.out _ (HR.out.below X0.out) (HG.out.below X0.out)).mono ?_); rintro e w3 ⟨rfl, hb3⟩; clear a0 a1 a2 a3 c0 c1 c2 c3; obtain ⟨a0, a1, a2, a3⟩ := two_facts (X1.out.belowS hb3); obtain ⟨c0, c1, c2, c3⟩ := two_facts (X2.out.belowS hb3))
    | ((with_reducible refine (hN.out _).mono ?_); rintro e w6 ⟨rfl, e6⟩; replace e6 := e6.symm; subst e6)
    | ((with_reducible refine (hN2.out _).mono ?_); rintro e w6 ⟨rfl, e6⟩; replace e6 := e6.symm; subst e6))
  have B := (X2.out.belowS hb3).both (c := .int .i64 0) (d := .slice none 0 0)
  have hbf := below_both (g := g2) (below_chain X0.out hb3) (.int .i64 0) (.slice none 0 0) (by omega)
  generalize (w3.setCell ⟨g2, 0, none⟩ (.int .i64 0)).setCell ⟨g2, 1, none⟩ (.slice none 0 0) = wf at *
  obtain ⟨g0, g1, _, _⟩ := two_facts B
  exact bodyPost_ret (v := .tuple #[.agg #[.int .i64 0, .slice none 0 0], .int .i64 0, .int .i64 9]) (by simp [results, Tryd.f11, go_sem, g0, g1]) rfl ⟨none, 0, 0, [], rfl, rfl, HOwn.nil _ _ _, hbf⟩

set_option maxRecDepth 100000 in
set_option maxHeartbeats 4000000 in
theorem hjoin_ok (nx : Int) (A : Option Addr) (n c : Nat) (rs : List RS) (most fr : Int) (w : World) (hr : HRd w A n rs) (hG : GOk w) (hm : hubMay (nx, subs rs) = true) (h1 : 1 ≤ most) (h2 : most ≤ 16) (h3 : isNum fr = true) (h4 : n < most) (h5 : isNum (nx + 1) = true) :
    Calls Tryd.prog 11 #[.agg #[.int .i64 nx, .slice A n c], .int .i64 most, .int .i64 fr] w (GivesJ w ((nx + 1, subs rs ++ [(nx, fr, [], false)]), nx, 0)) := by
  have hC := hid (fun W h k => hcheck_lit 0 nx A n c rs (by rw [hm]; rfl) W h k)
  have HR := hid hr
  have HG := hid hG
  have hl := hid hr.len
  have hN := hid (fun W => number_lit true fr h3 W)
  have hN2 := hid (fun W => number_lit true (nx + 1) h5 W)
  have hnx := isNum_iff.1 (hubMay_parts hm).1
  simp only at hnx
  have hn16 : n ≤ 16 := by omega
  have hT := hid (fun W (h : HRd W A n rs) => htwin_any nx A n c rs W h (by omega) (hubMay_its hm))
  obtain ⟨i0, hi0, hz0, hz1', hz2'⟩ := info_parts sub_info
  clear h3 h5
  clear hr hG
  go_enter Tryd.func11, Tryd.ntmps11
  go_upto_region 1 with (first
    | (refine wpList_bx rfl 24 _ rfl #[.int .i64 nx, .slice A n c] rfl ?_; intro w1 hB1 hb1 hy; have hz1 := hid hy; clear hy)
    | ((with_reducible refine at_alloc 24 ?_); refine wpList_al rfl 24 rfl _ (hub_zero _) ?_; intro w2 hB2 hb2 hy; have hz2 := hid hy; clear hy))
  have X0 := hid (below_chain hb1 hb2)
  have X1 := hid (hB1.belowS hb2)
  have X2 := hid hB2
  have hs1 : w.heap.size < w1.heap.size := by have := hz1.out; omega
  have hs2 := hid hB2.lt
  clear hB1 hb1 hz1 hB2 hb2 hz2
  generalize w1.heap.size = g2 at *
  obtain ⟨a0, a1, a2, a3⟩ := two_facts X1.out
  obtain ⟨c0, c1, c2, c3⟩ := two_facts X2.out
  go_wp2_with (first
    | ((with_reducible refine (hC.out _ (HR.out.below X0.out) (HG.out.below X0.out)).mono ?_); rintro e w3 ⟨rfl, hb3⟩; clear a0 a1 a2 a3 c0 c1 c2 c3; obtain ⟨a0, a1, a2, a3⟩ := two_facts (X1.out.belowS hb3); obtain ⟨c0, c1, c2, c3⟩ := two_facts (X2.out.belowS hb3))
    | ((with_reducible refine (hN.out _).mono ?_); rintro e w6 ⟨rfl, e6⟩; replace e6 := e6.symm; subst e6)
    | ((with_reducible refine (hN2.out _).mono ?_); rintro e w6 ⟨rfl, e6⟩; replace e6 := e6.symm; subst e6)
    | ((with_reducible refine (hT.out _ (HR.out.below (below_chain X0.out hb3))).mono ?_); rintro e w4 ⟨D, m, d, rs', rfl, hsub, hO, hb4⟩; have hm16 : m ≤ 16 := sub_count hsub hO hl.out hn16; clear a0 a1 a2 a3 c0 c1 c2 c3; obtain ⟨a0, a1, a2, a3⟩ := two_facts ((X1.out.belowS hb3).belowS hb4); obtain ⟨c0, c1, c2, c3⟩ := two_facts ((X2.out.belowS hb3).belowS hb4))
    | ((with_reducible refine at_build 53 ?_); refine wpList_b2 rfl 53 0 1 _ _ rfl (.int .i64 nx) (.int .i64 fr) rfl rfl _ (sub_built nx fr _) ?_)
    | ((with_reducible refine at_bslice 22 ?_); refine wpList_bsl1 rfl 22 53 1 0 _ rfl _ rfl _ (sub_bslice nx fr _) ?_; intro w5 hB5 hb5 hy; clear hy; have hO4 := (hO.setOut (g := g2) (.int .i64 nx) (.slice D m d) (by have := hs2.out; have := hb3.size; omega)).below hb5; have hO5 := hO4.1; have hlo5 : w3.heap.size ≤ w5.heap.size := by have := hb4.size; have := hb5.size; simp only [World.size_setCell] at this; omega)
    | (at_builtin; go_loud (refine wpList_app _ rfl _ _ _ rfl w3.heap.size 53 i0 _ 4 48 Tryd.underlying22 hi0 hz0 hz1' hz2' zeroS_cells (by omega) D m d _ rfl hO5 _ 1 1 0 [.int .i64 nx, .int .i64 fr, .slice none 0 0, .bool false] rfl ((hB5.rd (n := 1) (sz := 4) rfl).low (Nat.zero_le _)) (rsL_one ((nx, fr, [], false), none, 0, 0)) (by simp only [maxLen]; omega) (by omega) hlo5 ?_); intro D' d' w7 hO7 hg7 hat; clear a0 a1 a2 a3 c0 c1 c2 c3; have Y1 := hid ((((((X1.out.belowS hb3).belowS hb4).far (b := g2) (i := 0) (by omega) (.int .i64 nx)).far (b := g2) (i := 1) (by omega) (.slice D m d)).belowS hb5).grown hg7 (fun e => by have := hO4.row _ e.symm; have := hs2.out; have := hb3.size; omega)); have Y2 := hid (((((X2.out.belowS hb3).belowS hb4).both (c := .int .i64 nx) (d := .slice D m d)).belowS hb5).grown hg7 (fun e => by have := hO4.row _ e.symm; have := hs2.out; have := hb3.size; omega)); obtain ⟨a0, a1, a2, a3⟩ := two_facts Y1.out; obtain ⟨c0, c1, c2, c3⟩ := two_facts Y2.out))
  have hH := HOwn.push hO4 (nx, fr, [], false) rfl _ rfl hO7 hg7 hat
  have hb7 := (below_chain (below_both (g := g2) (below_chain (below_chain X0.out hb3) hb4) (.int .i64 nx) (.slice D m d) (by omega)) hb5).grown hg7 (by have := X0.out.size; have := hb3.size; omega) (fun g e => by have := hO4.row _ e; have := X0.out.size; have := hb3.size; omega)
  have hC7 := ((Chg.refl w7 (fun b => b = g2)).setCell (g := g2) (i := 1) (.slice D' (m + 1) d') (.inl rfl)).setCell (g := g2) (i := 0) (.int .i64 (nx + 1)) (.inl rfl)
  have Z2 : Blk ((w7.setCell ⟨g2, 1, none⟩ (.slice D' (m + 1) d')).setCell ⟨g2, 0, none⟩ (.int .i64 (nx + 1))) g2 24 #[.int .i64 (nx + 1), .slice D' (m + 1) d'] := (Y2.out.set_ 1 _).set_ 0 _
  have Z1 := hC7.blk Y1.out (by omega)
  have hg3 : g2 < w3.heap.size := by have := hs2.out; have := hb3.size; omega
  have hH8 := hH.chg hC7 (fun b hb e => by omega)
  have hb8 := below_of_chg hb7 hC7 (fun b e => by omega)
  clear a0 a1 a2 a3 c0 c1 c2 c3 Y1 Y2 hH hC7 hb7 hB5 hb5 hO4 hO5 hO hO7 hg7 hat hb4
  generalize (w7.setCell ⟨g2, 1, none⟩ (.slice D' (m + 1) d')).setCell ⟨g2, 0, none⟩ (.int .i64 (nx + 1)) = w8 at *
  have Z1 := Z1.drew
  have Z2 := Z2.drew
  obtain ⟨a0, a1, a2, a3⟩ := two_facts Z1
  obtain ⟨c0, c1, c2, c3⟩ := two_facts Z2
  refine wp_region_held_drew (S := (fun w' => w'.cell? ⟨g2, 0, none⟩ = some (.int .i64 (nx + 1)) ∧ w'.cell? ⟨g2, 1, none⟩ = some (.slice D' (m + 1) d') ∧ w'.cell? ⟨w.heap.size, 0, none⟩ = some (.int .i64 nx))) (by kernel_rfl) ⟨c0, c1, a0⟩ (fun hHeld => ?_)
  refine reg_take (v := ?_) 0 rfl (by kernel_rfl) (by kernel_rfl) (by kernel_rfl) (fun _ _ _ h => h) (Or.inl ⟨by rfl, ?_⟩) (by assumption) ?_; rotate_left; (intro w hSw; (try dsimp only at hSw); go_simp); (try with_reducible rfl); (try simp only [Act.put, List.setIfInBounds_toArray, List.set_cons_zero, List.set_cons_succ])
  refine reg_take (v := ?_) 1 rfl (by kernel_rfl) (by kernel_rfl) (by kernel_rfl) (fun _ _ _ h => h) (Or.inl ⟨by rfl, ?_⟩) (by assumption) ?_; rotate_left; (intro w hSw; (try dsimp only at hSw); go_simp); (try with_reducible rfl); (try simp only [Act.put, List.setIfInBounds_toArray, List.set_cons_zero, List.set_cons_succ])
  refine reg_take (v := ?_) 2 rfl (by kernel_rfl) (by kernel_rfl) (by kernel_rfl) (fun _ _ _ h => h) (Or.inl ⟨by rfl, ?_⟩) (by assumption) ?_; rotate_left; (intro w hSw; (try dsimp only at hSw); go_simp); (try with_reducible rfl); (try simp only [Act.put, List.setIfInBounds_toArray, List.set_cons_zero, List.set_cons_succ])
  refine reg_only 3 rfl (by kernel_rfl) (fun K hK => ?_); refine step_str rfl 24 _ _ rfl g2 #[.int .i64 (nx + 1), .slice D' (m + 1) d'] rfl rfl _ _ Z2 rfl (hub_size _ _) (one_hub _ _ _ _) ?_; intro w9 hB9 hg9 hy; clear hy; have Z1e := Z1.grown hg9 (by simp; omega); obtain ⟨q0, q1, _, _⟩ := two_facts hB9; obtain ⟨r0, _, _, _⟩ := two_facts Z1e; refine hK.out _ _ ?_ (fun hHeld => ?_); (exact ⟨q0, q1, r0⟩); clear hK K; (try simp only [Act.put, List.setIfInBounds_toArray, List.set_cons_zero, List.set_cons_succ])
  refine reg_take (v := ?_) 4 rfl (by kernel_rfl) (by kernel_rfl) (by kernel_rfl) (fun _ _ _ h => h) (Or.inl ⟨by rfl, ?_⟩) (by assumption) ?_; rotate_left; (intro w hSw; (try dsimp only at hSw); go_simp); (try with_reducible rfl); (try simp only [Act.put, List.setIfInBounds_toArray, List.set_cons_zero, List.set_cons_succ])
  refine reg_take (v := ?_) 5 rfl (by kernel_rfl) (by kernel_rfl) (by kernel_rfl) (fun _ _ _ h => h) (Or.inl ⟨by rfl, ?_⟩) (by assumption) ?_; rotate_left; (intro w hSw; (try dsimp only at hSw); go_simp); (try with_reducible rfl); (try simp only [Act.put, List.setIfInBounds_toArray, List.set_cons_zero, List.set_cons_succ])
  refine wpAnyH_done (by kernel_rfl) ?_ _
  have hHf := (show HOwn w8.drew w3.heap.size D' (m + 1) d' _ from hH8.below (below_self_drew w8)).grown hg9 hg3
  have hbf := below_set (below_drew1 hb8) hg9 (by omega)
  go_wp2
  exact bodyPost_ret (v := .tuple #[.agg #[.int .i64 (nx + 1), .slice D' (m + 1) d'], .int .i64 nx, .int .i64 0]) (by simp [results, Tryd.f11, go_sem, q0, q1]) rfl ⟨D', m + 1, d', _, rfl, by simp [subs] at hsub ⊢; exact hsub, hHf.low (by have := X0.out.size; have := hb3.size; omega), hbf⟩

theorem hjoin_any (nx : Int) (A : Option Addr) (n c : Nat) (rs : List RS) (most fr : Int) (w : World) (hr : HRd w A n rs) (hG : GOk w) :
    Calls Tryd.prog 11 #[.agg #[.int .i64 nx, .slice A n c], .int .i64 most, .int .i64 fr] w (GivesJ w (joinT (nx, subs rs) most fr)) := by
  have hl : (subs rs).length = n := by simpa [subs] using hr.len
  unfold joinT
  cases hm : hubMay (nx, subs rs) with
  | false => exact hjoin_bad nx A n c rs most fr w hr hG hm
  | true =>
    rw [if_pos rfl]
    by_cases h1 : most < 1
    · rw [if_neg (by omega)]
      exact hjoin_low nx A n c rs most fr w hr hG hm h1
    by_cases h2 : 16 < most
    · rw [if_neg (by omega)]
      exact hjoin_high nx A n c rs most fr w hr hG hm h2
    cases h3 : isNum fr with
    | false =>
      rw [if_neg (fun h => by cases h.2.2)]
      exact hjoin_from nx A n c rs most fr w hr hG hm (by omega) (by omega) h3
    | true =>
      rw [if_pos ⟨by omega, by omega, rfl⟩]
      by_cases h4 : most ≤ n
      · rw [if_neg (fun h => by have := h.1; simp only at this; omega)]
        exact hjoin_full nx A n c rs most fr w hr hG hm (by omega) (by omega) h3 h4
      cases h5 : isNum (nx + 1) with
      | false =>
        rw [if_neg (fun h => by cases h.2)]
        exact hjoin_far nx A n c rs most fr w hr hG hm (by omega) (by omega) h3 (by omega) h5
      | true =>
        rw [if_pos ⟨by simp only; omega, rfl⟩]
        exact hjoin_ok nx A n c rs most fr w hr hG hm (by omega) (by omega) h3 (by omega) h5
end Go.Proofs.YtmepbokoopgmiaaDoor
