/-
  Contracts of hub.turned, with what Leave and Poll hand to it. The gap stands in its variable.
-/
import Derived.Test.YtmepbokoopgmiaaDoorHubD
import Derived.Test.YtmepbokoopgmiaaDoorHubE
import Derived.WalkMore
namespace Go.Proofs.YtmepbokoopgmiaaDoor
open Go.RowKit
set_option linter.unusedSimpArgs false
set_option linter.unusedVariables false

/-- A hub's rows lie apart from block g. -/
def HApart (g : Nat) (D : Option Addr) (d : Nat) (rs : List RS) : Prop := rowOf D d ≠ some g ∧ ∀ r ∈ rs, 0 < r.2.2.1 → ∀ b o, r.2.1 = some ⟨b, o, none⟩ → b ≠ g
theorem HOwn.apart {w : World} {lo m d g : Nat} {D : Option Addr} {rs : List RS} (h : HOwn w lo D m d rs) (hg : w.heap.size ≤ g) : HApart g D d rs := by
  refine ⟨fun e => by have := (h.1.row_lt g e).2; omega, fun r hr hm b o e hb => ?_⟩
  obtain ⟨b', o', e', _, hlt, _⟩ := (h.2 r hr).2.1.1.lt (by omega)
  rw [e] at e'
  cases e'
  omega
theorem HOwn.apartLo {w : World} {lo m d g : Nat} {D : Option Addr} {rs : List RS} (h : HOwn w lo D m d rs) (hg : g < lo) : HApart g D d rs := by
  refine ⟨fun e => by have := (h.1.row_lt g e).1; omega, fun r hr hm b o e hb => ?_⟩
  obtain ⟨b', o', e', hlo, _⟩ := (h.2 r hr).2.1.1.2 (by omega)
  rw [e] at e'
  cases e'
  omega
theorem HOwn.chgA {w w' : World} {lo m d g : Nat} {D : Option Addr} {rs : List RS} (h : HOwn w lo D m d rs) (ha : HApart g D d rs) (hc : Chg w w' (fun b => b = g)) : HOwn w' lo D m d rs :=
  ⟨h.1.keep fun b hl hr => hc.block b hl (fun e => ha.1 (by rw [hr, e])), fun r hr => ⟨(h.2 r hr).1, (h.2 r hr).2.1.keepB (by omega) hc fun hm b o e hb => ha.2 r hr hm b o e hb, (h.2 r hr).2.2⟩⟩
/-- What a turning gives: the subscribers, the error. -/
def DoPost (W : World) (lo gh : Nat) (nx : Int) (extra : Nat → Prop) (Y : World → Prop) (l : List Sub) (er : Int) (e : Ending) (w' : World) : Prop :=
  e = .returned (.int .i64 er) ∧ Chg W w' (fun b => lo ≤ b ∨ extra b) ∧ Y w' ∧ (er = 0 → ∃ D m d rs, Blk w' gh 24 #[.int .i64 nx, .slice D m d] ∧ HOwn w' lo D m d rs ∧ HApart gh D d rs ∧ subs rs = l)
theorem Chg.of_below {w w' : World} (h : Below w.heap.size w w') : Chg w w' (fun _ => False) := ⟨h.os, h.tape, h.output, h.size, fun b hb _ => h.block b hb⟩
theorem place_no {id : Int} {l : List Sub} {k : Nat} {s : Sub} (hk : k < place id l) (hs : l[k]? = some s) : s.1 ≠ id := by
  unfold place at hk
  obtain ⟨h1, h2⟩ := List.getElem?_eq_some_iff.1 hs
  have := List.not_of_lt_findIdx hk
  rw [h2] at this
  simpa using this
theorem place_yes {id : Int} {l : List Sub} {s : Sub} (hs : l[place id l]? = some s) : s.1 = id := place_at hs
theorem below_chgA {w0 w w' : World} {g : Nat} (h : Below w0.heap.size w0 w) (hc : Chg w w' (fun b => b = g)) (hg : w0.heap.size ≤ g) : Below w0.heap.size w0 w' := h.trans (hc.below h.size (fun b e => by omega))

set_option maxRecDepth 100000 in
set_option maxHeartbeats 4000000 in
theorem turnedL_bad (nx : Int) (A : Option Addr) (n c : Nat) (rs : List RS) (id : Int) (w : World) (hr : HRd w A n rs) (hG : GOk w) (hm : hubMay (nx, subs rs) = false) :
    Calls Tryd.prog 28 #[.agg #[.int .i64 nx, .slice A n c], .int .i64 id, .func (.func 31) #[] #[]] w fun e w' => e = .returned (.tuple #[.agg #[.int .i64 0, .slice none 0 0], .int .i64 8]) ∧ Below w.heap.size w w' := by
  have hC := hid (fun W h k => hcheck_lit 8 nx A n c rs (by rw [hm]; rfl) W h k)
  have HR := hid hr
  have HG := hid hG
  have hl := hid hr.len
  clear hr hG
  go_enter Tryd.func28, Tryd.ntmps28
  go_wp2_with (first
    | (refine wpList_bx rfl 24 _ rfl #[.int .i64 nx, .slice A n c] rfl ?_; intro w1 hB1 hb1 hy; have hz1 := hid hy; clear hy)
    | ((with_reducible refine at_alloc (d := some 6) 24 ?_); refine wpList_al rfl 24 rfl _ (hub_zero _) ?_; intro w2 hB2 hb2 hy; have hz2 := hid hy; clear hy; have X0 := hid (below_chain hb1 hb2); have X1 := hid (hB1.belowS hb2); have X2 := hid hB2; have hs1 : w.heap.size < w1.heap.size := (by have := hz1.out; omega); have hs2 := hid hB2.lt; clear hB1 hb1 hz1 hB2 hb2 hz2; generalize w1.heap.size = g2 at X2 hs1 hs2 ⊢; obtain ⟨a0, a1, a2, a3⟩ := two_facts X1.out; obtain ⟨c0, c1, c2, c3⟩ := two_facts X2.out))
  go_step3
  go_wp2_with (first
    | ((with_reducible refine (hC.out _ (HR.out.below X0.out) (HG.out.below X0.out)).mono ?_); rintro e w3 ⟨rfl, hb3⟩; clear a0 a1 a2 a3 c0 c1 c2 c3; obtain ⟨a0, a1, a2, a3⟩ := two_facts (X1.out.belowS hb3); obtain ⟨c0, c1, c2, c3⟩ := two_facts (X2.out.belowS hb3))
    | ((with_reducible refine at_build 24 ?_); refine wpList_bd rfl 24 rfl _ (hub_built _) ?_))
  have B := (X2.out.belowS hb3).both (c := .int .i64 0) (d := .slice none 0 0)
  have hbf := below_both (g := g2) (below_chain X0.out hb3) (.int .i64 0) (.slice none 0 0) (by omega)
  generalize (w3.setCell ⟨g2, 0, none⟩ (.int .i64 0)).setCell ⟨g2, 1, none⟩ (.slice none 0 0) = wf at *
  obtain ⟨g0, g1, _, _⟩ := two_facts B
  try rw [Exit.noGoto_ret]
  exact bodyPost_ret (v := .tuple #[.agg #[.int .i64 0, .slice none 0 0], .int .i64 8]) (by simp [results, Tryd.f28, go_sem, g0, g1]) rfl ⟨rfl, hbf⟩

set_option maxRecDepth 100000 in
set_option maxHeartbeats 4000000 in
theorem turnedL_none (nx : Int) (A : Option Addr) (n c : Nat) (rs : List RS) (id : Int) (w : World) (hr : HRd w A n rs) (hG : GOk w) (hm : hubMay (nx, subs rs) = true) (hp : (subs rs).length ≤ place id (subs rs)) :
    Calls Tryd.prog 28 #[.agg #[.int .i64 nx, .slice A n c], .int .i64 id, .func (.func 31) #[] #[]] w fun e w' => e = .returned (.tuple #[.agg #[.int .i64 0, .slice none 0 0], .int .i64 2]) ∧ Below w.heap.size w w' := by
  have hC := hid (fun W h k => hcheck_lit 0 nx A n c rs (by rw [hm]; rfl) W h k)
  have HR := hid hr
  have HG := hid hG
  have hl := hid hr.len
  have hnx := isNum_iff.1 (hubMay_parts hm).1
  have hn16 : n ≤ 16 := by have := (hubMay_parts hm).2.1; have := hr.len; simp [subs] at *; omega
  have hT := hid (fun W (h : HRd W A n rs) => htwin_any nx A n c rs W h (by omega) (hubMay_its hm))
  clear hr hG
  go_enter Tryd.func28, Tryd.ntmps28
  go_wp2_with (first
    | (refine wpList_bx rfl 24 _ rfl #[.int .i64 nx, .slice A n c] rfl ?_; intro w1 hB1 hb1 hy; have hz1 := hid hy; clear hy)
    | ((with_reducible refine at_alloc (d := some 6) 24 ?_); refine wpList_al rfl 24 rfl _ (hub_zero _) ?_; intro w2 hB2 hb2 hy; have hz2 := hid hy; clear hy; have X0 := hid (below_chain hb1 hb2); have X1 := hid (hB1.belowS hb2); have X2 := hid hB2; have hs1 : w.heap.size < w1.heap.size := (by have := hz1.out; omega); have hs2 := hid hB2.lt; clear hB1 hb1 hz1 hB2 hb2 hz2; generalize w1.heap.size = g2 at X2 hs1 hs2 ⊢; obtain ⟨a0, a1, a2, a3⟩ := two_facts X1.out; obtain ⟨c0, c1, c2, c3⟩ := two_facts X2.out))
  go_step3
  go_wp2_with (first
    | ((with_reducible refine (hC.out _ (HR.out.below X0.out) (HG.out.below X0.out)).mono ?_); rintro e w3 ⟨rfl, hb3⟩; clear a0 a1 a2 a3 c0 c1 c2 c3; obtain ⟨a0, a1, a2, a3⟩ := two_facts (X1.out.belowS hb3); obtain ⟨c0, c1, c2, c3⟩ := two_facts (X2.out.belowS hb3))
    | ((with_reducible refine at_build 24 ?_); refine wpList_bd rfl 24 rfl _ (hub_built _) ?_)
    | ((with_reducible refine (hT.out _ (HR.out.below (below_chain X0.out hb3))).mono ?_); rintro e w4 ⟨D, m, d, rs', rfl, hsub, hO, hb4⟩)
    | ((with_reducible refine at_alloc (d := some 9) 24 ?_); refine wpList_al rfl 24 rfl _ (hub_zero _) ?_; intro w5 hB5 hb5 hy; have hz5 := hid hy; clear hy; clear a0 a1 a2 a3 c0 c1 c2 c3; obtain ⟨d0, d1, d2, d3⟩ := two_facts hB5))
  have hm16 : m ≤ 16 := sub_count hsub hO hl.out hn16
  have hml := hid (show m = (subs rs).length by rw [← hsub]; have := hO.len; simp [subs] at *; omega)
  have hA9 := hO.apart (Nat.le_refl w4.heap.size)
  have hCh := chg_both w5 w4.heap.size (.int .i64 nx) (.slice D m d)
  have hO6 := (hO.below hb5).chgA hA9 hCh
  have B9 : Blk ((w5.setCell ⟨w4.heap.size, 0, none⟩ (.int .i64 nx)).setCell ⟨w4.heap.size, 1, none⟩ (.slice D m d)) w4.heap.size 24 #[.int .i64 nx, .slice D m d] := hB5.both
  have hlo : g2 < w3.heap.size := by have := hs2.out; have := hb3.size; omega
  have hlo4 : w3.heap.size ≤ w4.heap.size := hb4.size
  have hb05 := below_chain (below_chain (below_chain X0.out hb3) hb4) hb5
  have hb06 := below_chgA hb05 hCh (by have := X0.out.size; have := hb3.size; omega)
  have X1 := hid (hCh.blk (((X1.out.belowS hb3).belowS hb4).belowS hb5) (by have := X0.out.size; have := hb3.size; omega))
  have X2 := hid (hCh.blk (((X2.out.belowS hb3).belowS hb4).belowS hb5) (by omega))
  have hlw : w.heap.size ≤ w3.heap.size := by have := X0.out.size; have := hb3.size; omega
  have X0 := hid hb06
  clear hB5 hb5 hz5 hb05 hb06 hCh hO d0 d1 d2 d3
  generalize (w5.setCell ⟨w4.heap.size, 0, none⟩ (.int .i64 nx)).setCell ⟨w4.heap.size, 1, none⟩ (.slice D m d) = w6 at *
  have hg9 := B9.lt
  generalize w4.heap.size = g9 at *
  obtain ⟨d0, d1, d2, d3⟩ := two_facts B9
  have HO := hid hO6
  have HA := hid hA9
  have HB := hid B9
  have HS := hid hsub
  clear hO6 hA9 B9 hsub
  go_wp2_with fail
  go_step3
  go_wp2_with fail
  go_loop [10, 24] (fun a i => ∃ k : Nat, k ≤ m ∧ a = .int .i64 (-1) ∧ i = .int .i64 k) (fun _ i => m - (intOf i).toNat)
  case atStart => exact ⟨0, Nat.zero_le _, rfl, rfl⟩
  case round =>
    obtain ⟨k, hk, rfl, rfl⟩ := hrel
    by_cases hlt : k < m
    · skip
      have hx' : rs'[k]? = some (rs'[k]'(by have := HO.out.len; omega)) := List.getElem?_eq_getElem _
      generalize rs'[k]'(by have := HO.out.len; omega) = r at hx'
      obtain ⟨g, hD, hrow, _, hgl⟩ := HO.out.1.base (by omega)
      have hD' := hid hD
      subst hD
      obtain ⟨t0, _⟩ := HO.out.1.tapAt hx'
      have hsx : (subs rs)[k]? = some r.1 := by rw [← HS.out]; simp [subs, hx']
      have hti : (k : Int) < (m : Int) := by omega
      have htz : (0 : Int) ≤ (k : Int) := by omega
      have hne : (r.1.1 == id) = false := by simpa using place_no (id := id) (by have := hml.out; omega) hsx
      have HX := hid hx'
      have HSX := hid hsx
      clear hx' hsx
      generalize r.1.1 = ri at *
      go_wp2_with fail
      exact ⟨⟨k + 1, by omega, rfl, by go_num⟩, by simp [intOf]; omega⟩
    · obtain rfl : k = m := by omega
      have hti : ¬ (k : Int) < (k : Int) := by omega
      obtain ⟨c0, c1, c2, c3⟩ := two_facts X2.out
      go_wp2_with (first
    | ((with_reducible refine at_build 24 ?_); refine wpList_bd rfl 24 rfl _ (hub_built _) ?_))
      have B := X2.out.both (c := .int .i64 0) (d := .slice none 0 0)
      have hbf := below_both (g := g2) X0.out (.int .i64 0) (.slice none 0 0) (by omega)
      generalize (w6.setCell ⟨g2, 0, none⟩ (.int .i64 0)).setCell ⟨g2, 1, none⟩ (.slice none 0 0) = wf at *
      obtain ⟨g0, g1, _, _⟩ := two_facts B
      try rw [Exit.noGoto_ret]
      exact bodyPost_ret (v := .tuple #[.agg #[.int .i64 0, .slice none 0 0], .int .i64 2]) (by simp [results, Tryd.f28, go_sem, g0, g1]) rfl ⟨rfl, hbf⟩

set_option maxRecDepth 100000 in
set_option maxHeartbeats 4000000 in
theorem turnedL_ok (nx : Int) (A : Option Addr) (n c : Nat) (rs : List RS) (id : Int) (w : World) (hr : HRd w A n rs) (hG : GOk w) (hm : hubMay (nx, subs rs) = true) (lF : List Sub) (er : Int) (extra : Nat → Prop) (Y : World → Prop) (hx : ∀ b, extra b → b < w.heap.size) (hY : ∀ W W', Chg W W' (fun b => w.heap.size ≤ b) → Y W → Y W') (hp : place id (subs rs) < (subs rs).length)
    (hF : ∀ (W : World) (lo gh : Nat) (D : Option Addr) (m d : Nat) (rs' : List RS), Blk W gh 24 #[.int .i64 nx, .slice D m d] → HOwn W lo D m d rs' → HApart gh D d rs' → lo ≤ gh → w.heap.size ≤ lo → subs rs' = subs rs → GOk W → m = (subs rs).length → m ≤ 16 → Below w.heap.size w W →
      Calls Tryd.prog 31 (#[.pointer (some ⟨gh, 0, none⟩), .int .i64 ((place id (subs rs) : Nat) : Int)]) W (DoPost W lo gh nx extra Y lF er)) (he : er = 0) :
    Calls Tryd.prog 28 #[.agg #[.int .i64 nx, .slice A n c], .int .i64 id, .func (.func 31) #[] #[]] w fun e w' => ∃ D m d rs', e = .returned (.tuple #[.agg #[.int .i64 nx, .slice D m d], .int .i64 0]) ∧ HOwn w' w.heap.size D m d rs' ∧ subs rs' = lF ∧ Chg w w' extra ∧ Y w' := by
  have hC := hid (fun W h k => hcheck_lit 0 nx A n c rs (by rw [hm]; rfl) W h k)
  have HR := hid hr
  have HG := hid hG
  have hl := hid hr.len
  have hnx := isNum_iff.1 (hubMay_parts hm).1
  have hn16 : n ≤ 16 := by have := (hubMay_parts hm).2.1; have := hr.len; simp [subs] at *; omega
  have hT := hid (fun W (h : HRd W A n rs) => htwin_any nx A n c rs W h (by omega) (hubMay_its hm))
  subst he
  clear hr hG
  go_enter Tryd.func28, Tryd.ntmps28
  go_wp2_with (first
    | (refine wpList_bx rfl 24 _ rfl #[.int .i64 nx, .slice A n c] rfl ?_; intro w1 hB1 hb1 hy; have hz1 := hid hy; clear hy)
    | ((with_reducible refine at_alloc (d := some 6) 24 ?_); refine wpList_al rfl 24 rfl _ (hub_zero _) ?_; intro w2 hB2 hb2 hy; have hz2 := hid hy; clear hy; have X0 := hid (below_chain hb1 hb2); have X1 := hid (hB1.belowS hb2); have X2 := hid hB2; have hs1 : w.heap.size < w1.heap.size := (by have := hz1.out; omega); have hs2 := hid hB2.lt; clear hB1 hb1 hz1 hB2 hb2 hz2; generalize w1.heap.size = g2 at X2 hs1 hs2 ⊢; obtain ⟨a0, a1, a2, a3⟩ := two_facts X1.out; obtain ⟨c0, c1, c2, c3⟩ := two_facts X2.out))
  go_step3
  go_wp2_with (first
    | ((with_reducible refine (hC.out _ (HR.out.below X0.out) (HG.out.below X0.out)).mono ?_); rintro e w3 ⟨rfl, hb3⟩; clear a0 a1 a2 a3 c0 c1 c2 c3; obtain ⟨a0, a1, a2, a3⟩ := two_facts (X1.out.belowS hb3); obtain ⟨c0, c1, c2, c3⟩ := two_facts (X2.out.belowS hb3))
    | ((with_reducible refine at_build 24 ?_); refine wpList_bd rfl 24 rfl _ (hub_built _) ?_)
    | ((with_reducible refine (hT.out _ (HR.out.below (below_chain X0.out hb3))).mono ?_); rintro e w4 ⟨D, m, d, rs', rfl, hsub, hO, hb4⟩)
    | ((with_reducible refine at_alloc (d := some 9) 24 ?_); refine wpList_al rfl 24 rfl _ (hub_zero _) ?_; intro w5 hB5 hb5 hy; have hz5 := hid hy; clear hy; clear a0 a1 a2 a3 c0 c1 c2 c3; obtain ⟨d0, d1, d2, d3⟩ := two_facts hB5))
  have hm16 : m ≤ 16 := sub_count hsub hO hl.out hn16
  have hml := hid (show m = (subs rs).length by rw [← hsub]; have := hO.len; simp [subs] at *; omega)
  have hA9 := hO.apart (Nat.le_refl w4.heap.size)
  have hCh := chg_both w5 w4.heap.size (.int .i64 nx) (.slice D m d)
  have hO6 := (hO.below hb5).chgA hA9 hCh
  have B9 : Blk ((w5.setCell ⟨w4.heap.size, 0, none⟩ (.int .i64 nx)).setCell ⟨w4.heap.size, 1, none⟩ (.slice D m d)) w4.heap.size 24 #[.int .i64 nx, .slice D m d] := hB5.both
  have hlo : g2 < w3.heap.size := by have := hs2.out; have := hb3.size; omega
  have hlo4 : w3.heap.size ≤ w4.heap.size := hb4.size
  have hb05 := below_chain (below_chain (below_chain X0.out hb3) hb4) hb5
  have hb06 := below_chgA hb05 hCh (by have := X0.out.size; have := hb3.size; omega)
  have X1 := hid (hCh.blk (((X1.out.belowS hb3).belowS hb4).belowS hb5) (by have := X0.out.size; have := hb3.size; omega))
  have X2 := hid (hCh.blk (((X2.out.belowS hb3).belowS hb4).belowS hb5) (by omega))
  have hlw : w.heap.size ≤ w3.heap.size := by have := X0.out.size; have := hb3.size; omega
  have X0 := hid hb06
  clear hB5 hb5 hz5 hb05 hb06 hCh hO d0 d1 d2 d3
  generalize (w5.setCell ⟨w4.heap.size, 0, none⟩ (.int .i64 nx)).setCell ⟨w4.heap.size, 1, none⟩ (.slice D m d) = w6 at *
  have hg9 := B9.lt
  generalize w4.heap.size = g9 at *
  obtain ⟨d0, d1, d2, d3⟩ := two_facts B9
  have HO := hid hO6
  have HA := hid hA9
  have HB := hid B9
  have HS := hid hsub
  clear hO6 hA9 B9 hsub
  go_wp2_with fail
  go_step3
  go_wp2_with fail
  go_loop [10, 24] (fun a i => ∃ k : Nat, k ≤ place id (subs rs) ∧ a = .int .i64 (-1) ∧ i = .int .i64 k) (fun _ i => m - (intOf i).toNat)
  case atStart => exact ⟨0, Nat.zero_le _, rfl, rfl⟩
  case round =>
    obtain ⟨k, hk, rfl, rfl⟩ := hrel
    have hkm : k < m := by have := hml.out; omega
    have hx' : rs'[k]? = some (rs'[k]'(by have := HO.out.len; omega)) := List.getElem?_eq_getElem _
    generalize rs'[k]'(by have := HO.out.len; omega) = r at hx'
    obtain ⟨g, hD, hrow, _, hgl⟩ := HO.out.1.base (by omega)
    have hD' := hid hD
    subst hD
    obtain ⟨t0, _⟩ := HO.out.1.tapAt hx'
    have hsx : (subs rs)[k]? = some r.1 := by rw [← HS.out]; simp [subs, hx']
    have hti : (k : Int) < (m : Int) := by omega
    have htz : (0 : Int) ≤ (k : Int) := by omega
    by_cases hlt : k < place id (subs rs)
    · have hne : (r.1.1 == id) = false := by simpa using place_no (id := id) hlt hsx
      have HX := hid hx'
      have HSX := hid hsx
      clear hx' hsx
      generalize r.1.1 = ri at *
      go_wp2_with fail
      exact ⟨⟨k + 1, by omega, rfl, by go_num⟩, by simp [intOf]; omega⟩
    · obtain rfl : k = place id (subs rs) := by omega
      have hri : r.1.1 = id := place_yes hsx
      rw [hri] at t0
      have hcall := hid (hF w6 w3.heap.size g9 (some ⟨g, 0, none⟩) m d rs' HB.out HO.out HA.out hlo4 hlw HS.out (HG.out.below X0.out) hml.out hm16 X0.out)
      have HX := hid hx'
      have HSX := hid hsx
      clear hx' hsx hri hF
      generalize place id (subs rs) = k at *
      go_wp2_with (first
        | ((with_reducible refine hcall.out.mono ?_); rintro e w7 ⟨rfl, hc7, hY7, hres⟩; obtain ⟨D7, m7, d7, rs7, hB7, hO7, hA7, hs7⟩ := hres rfl; clear d0 d1 d2 d3; obtain ⟨d0, d1, d2, d3⟩ := two_facts hB7; have Y2 := hc7.blk X2.out (fun h => h.elim (fun h => by omega) (fun h => by have := hx _ h; omega)); obtain ⟨c0, c1, c2, c3⟩ := two_facts Y2))
      have B := Y2.both (c := .int .i64 nx) (d := .slice D7 m7 d7)
      have hCg := chg_both w7 g2 (.int .i64 nx) (.slice D7 m7 d7)
      have hOf := hO7.chg hCg (fun b hb e => by omega)
      have hYf := hY _ _ (⟨hCg.os, hCg.tape, hCg.output, hCg.size, fun b hl hn => hCg.block b hl (fun e => hn (by omega))⟩ : Chg w7 _ (fun b => w.heap.size ≤ b)) hY7
      have hcf := ((Chg.of_below X0.out).trans hc7 (bad := extra) (fun b e => e.elim) (fun b hb e => e.elim (fun h => by have := hlw; omega) (fun h => h))).trans hCg (bad := extra) (fun b e => e) (fun b hb e => by omega)
      generalize (w7.setCell ⟨g2, 0, none⟩ (.int .i64 nx)).setCell ⟨g2, 1, none⟩ (.slice D7 m7 d7) = wf at *
      obtain ⟨g0, g1, _, _⟩ := two_facts B
      try rw [Exit.noGoto_ret]
      exact bodyPost_ret (v := .tuple #[.agg #[.int .i64 nx, .slice D7 m7 d7], .int .i64 0]) (by simp [results, Tryd.f28, go_sem, g0, g1]) rfl ⟨D7, m7, d7, rs7, rfl, hOf.low (by omega), hs7, hcf, hYf⟩

set_option maxRecDepth 100000 in
set_option maxHeartbeats 4000000 in
theorem turnedL_err (nx : Int) (A : Option Addr) (n c : Nat) (rs : List RS) (id : Int) (w : World) (hr : HRd w A n rs) (hG : GOk w) (hm : hubMay (nx, subs rs) = true) (lF : List Sub) (er : Int) (extra : Nat → Prop) (Y : World → Prop) (hx : ∀ b, extra b → b < w.heap.size) (hY : ∀ W W', Chg W W' (fun b => w.heap.size ≤ b) → Y W → Y W') (hp : place id (subs rs) < (subs rs).length)
    (hF : ∀ (W : World) (lo gh : Nat) (D : Option Addr) (m d : Nat) (rs' : List RS), Blk W gh 24 #[.int .i64 nx, .slice D m d] → HOwn W lo D m d rs' → HApart gh D d rs' → lo ≤ gh → w.heap.size ≤ lo → subs rs' = subs rs → GOk W → m = (subs rs).length → m ≤ 16 → Below w.heap.size w W →
      Calls Tryd.prog 31 (#[.pointer (some ⟨gh, 0, none⟩), .int .i64 ((place id (subs rs) : Nat) : Int)]) W (DoPost W lo gh nx extra Y lF er)) (he : (er == 0) = false) :
    Calls Tryd.prog 28 #[.agg #[.int .i64 nx, .slice A n c], .int .i64 id, .func (.func 31) #[] #[]] w fun e w' => e = .returned (.tuple #[.agg #[.int .i64 0, .slice none 0 0], .int .i64 er]) ∧ Chg w w' extra ∧ Y w' := by
  have hC := hid (fun W h k => hcheck_lit 0 nx A n c rs (by rw [hm]; rfl) W h k)
  have HR := hid hr
  have HG := hid hG
  have hl := hid hr.len
  have hnx := isNum_iff.1 (hubMay_parts hm).1
  have hn16 : n ≤ 16 := by have := (hubMay_parts hm).2.1; have := hr.len; simp [subs] at *; omega
  have hT := hid (fun W (h : HRd W A n rs) => htwin_any nx A n c rs W h (by omega) (hubMay_its hm))
  clear hr hG
  go_enter Tryd.func28, Tryd.ntmps28
  go_wp2_with (first
    | (refine wpList_bx rfl 24 _ rfl #[.int .i64 nx, .slice A n c] rfl ?_; intro w1 hB1 hb1 hy; have hz1 := hid hy; clear hy)
    | ((with_reducible refine at_alloc (d := some 6) 24 ?_); refine wpList_al rfl 24 rfl _ (hub_zero _) ?_; intro w2 hB2 hb2 hy; have hz2 := hid hy; clear hy; have X0 := hid (below_chain hb1 hb2); have X1 := hid (hB1.belowS hb2); have X2 := hid hB2; have hs1 : w.heap.size < w1.heap.size := (by have := hz1.out; omega); have hs2 := hid hB2.lt; clear hB1 hb1 hz1 hB2 hb2 hz2; generalize w1.heap.size = g2 at X2 hs1 hs2 ⊢; obtain ⟨a0, a1, a2, a3⟩ := two_facts X1.out; obtain ⟨c0, c1, c2, c3⟩ := two_facts X2.out))
  go_step3
  go_wp2_with (first
    | ((with_reducible refine (hC.out _ (HR.out.below X0.out) (HG.out.below X0.out)).mono ?_); rintro e w3 ⟨rfl, hb3⟩; clear a0 a1 a2 a3 c0 c1 c2 c3; obtain ⟨a0, a1, a2, a3⟩ := two_facts (X1.out.belowS hb3); obtain ⟨c0, c1, c2, c3⟩ := two_facts (X2.out.belowS hb3))
    | ((with_reducible refine at_build 24 ?_); refine wpList_bd rfl 24 rfl _ (hub_built _) ?_)
    | ((with_reducible refine (hT.out _ (HR.out.below (below_chain X0.out hb3))).mono ?_); rintro e w4 ⟨D, m, d, rs', rfl, hsub, hO, hb4⟩)
    | ((with_reducible refine at_alloc (d := some 9) 24 ?_); refine wpList_al rfl 24 rfl _ (hub_zero _) ?_; intro w5 hB5 hb5 hy; have hz5 := hid hy; clear hy; clear a0 a1 a2 a3 c0 c1 c2 c3; obtain ⟨d0, d1, d2, d3⟩ := two_facts hB5))
  have hm16 : m ≤ 16 := sub_count hsub hO hl.out hn16
  have hml := hid (show m = (subs rs).length by rw [← hsub]; have := hO.len; simp [subs] at *; omega)
  have hA9 := hO.apart (Nat.le_refl w4.heap.size)
  have hCh := chg_both w5 w4.heap.size (.int .i64 nx) (.slice D m d)
  have hO6 := (hO.below hb5).chgA hA9 hCh
  have B9 : Blk ((w5.setCell ⟨w4.heap.size, 0, none⟩ (.int .i64 nx)).setCell ⟨w4.heap.size, 1, none⟩ (.slice D m d)) w4.heap.size 24 #[.int .i64 nx, .slice D m d] := hB5.both
  have hlo : g2 < w3.heap.size := by have := hs2.out; have := hb3.size; omega
  have hlo4 : w3.heap.size ≤ w4.heap.size := hb4.size
  have hb05 := below_chain (below_chain (below_chain X0.out hb3) hb4) hb5
  have hb06 := below_chgA hb05 hCh (by have := X0.out.size; have := hb3.size; omega)
  have X1 := hid (hCh.blk (((X1.out.belowS hb3).belowS hb4).belowS hb5) (by have := X0.out.size; have := hb3.size; omega))
  have X2 := hid (hCh.blk (((X2.out.belowS hb3).belowS hb4).belowS hb5) (by omega))
  have hlw : w.heap.size ≤ w3.heap.size := by have := X0.out.size; have := hb3.size; omega
  have X0 := hid hb06
  clear hB5 hb5 hz5 hb05 hb06 hCh hO d0 d1 d2 d3
  generalize (w5.setCell ⟨w4.heap.size, 0, none⟩ (.int .i64 nx)).setCell ⟨w4.heap.size, 1, none⟩ (.slice D m d) = w6 at *
  have hg9 := B9.lt
  generalize w4.heap.size = g9 at *
  obtain ⟨d0, d1, d2, d3⟩ := two_facts B9
  have HO := hid hO6
  have HA := hid hA9
  have HB := hid B9
  have HS := hid hsub
  clear hO6 hA9 B9 hsub
  go_wp2_with fail
  go_step3
  go_wp2_with fail
  go_loop [10, 24] (fun a i => ∃ k : Nat, k ≤ place id (subs rs) ∧ a = .int .i64 (-1) ∧ i = .int .i64 k) (fun _ i => m - (intOf i).toNat)
  case atStart => exact ⟨0, Nat.zero_le _, rfl, rfl⟩
  case round =>
    obtain ⟨k, hk, rfl, rfl⟩ := hrel
    have hkm : k < m := by have := hml.out; omega
    have hx' : rs'[k]? = some (rs'[k]'(by have := HO.out.len; omega)) := List.getElem?_eq_getElem _
    generalize rs'[k]'(by have := HO.out.len; omega) = r at hx'
    obtain ⟨g, hD, hrow, _, hgl⟩ := HO.out.1.base (by omega)
    have hD' := hid hD
    subst hD
    obtain ⟨t0, _⟩ := HO.out.1.tapAt hx'
    have hsx : (subs rs)[k]? = some r.1 := by rw [← HS.out]; simp [subs, hx']
    have hti : (k : Int) < (m : Int) := by omega
    have htz : (0 : Int) ≤ (k : Int) := by omega
    by_cases hlt : k < place id (subs rs)
    · have hne : (r.1.1 == id) = false := by simpa using place_no (id := id) hlt hsx
      have HX := hid hx'
      have HSX := hid hsx
      clear hx' hsx
      generalize r.1.1 = ri at *
      go_wp2_with fail
      exact ⟨⟨k + 1, by omega, rfl, by go_num⟩, by simp [intOf]; omega⟩
    · obtain rfl : k = place id (subs rs) := by omega
      have hri : r.1.1 = id := place_yes hsx
      rw [hri] at t0
      have hcall := hid (hF w6 w3.heap.size g9 (some ⟨g, 0, none⟩) m d rs' HB.out HO.out HA.out hlo4 hlw HS.out (HG.out.below X0.out) hml.out hm16 X0.out)
      have HX := hid hx'
      have HSX := hid hsx
      clear hx' hsx hri hF
      generalize place id (subs rs) = k at *
      go_wp2_with (first
        | ((with_reducible refine hcall.out.mono ?_); rintro e w7 ⟨rfl, hc7, hY7, hres⟩; clear d0 d1 d2 d3; have Y2 := hc7.blk X2.out (fun h => h.elim (fun h => by omega) (fun h => by have := hx _ h; omega)); obtain ⟨c0, c1, c2, c3⟩ := two_facts Y2)
        | ((with_reducible refine at_build 24 ?_); refine wpList_bd rfl 24 rfl _ (hub_built _) ?_))
      have B := Y2.both (c := .int .i64 0) (d := .slice none 0 0)
      have hCg := chg_both w7 g2 (.int .i64 0) (.slice none 0 0)
      have hYf := hY _ _ (⟨hCg.os, hCg.tape, hCg.output, hCg.size, fun b hl hn => hCg.block b hl (fun e => hn (by omega))⟩ : Chg w7 _ (fun b => w.heap.size ≤ b)) hY7
      have hcf := ((Chg.of_below X0.out).trans hc7 (bad := extra) (fun b e => e.elim) (fun b hb e => e.elim (fun h => by have := hlw; omega) (fun h => h))).trans hCg (bad := extra) (fun b e => e) (fun b hb e => by omega)
      generalize (w7.setCell ⟨g2, 0, none⟩ (.int .i64 0)).setCell ⟨g2, 1, none⟩ (.slice none 0 0) = wf at *
      obtain ⟨g0, g1, _, _⟩ := two_facts B
      try rw [Exit.noGoto_ret]
      exact bodyPost_ret (v := .tuple #[.agg #[.int .i64 0, .slice none 0 0], .int .i64 er]) (by simp [results, Tryd.f28, go_sem, g0, g1]) rfl ⟨rfl, hcf, hYf⟩

set_option maxRecDepth 100000 in
set_option maxHeartbeats 4000000 in
theorem turnedP_bad (nx : Int) (A : Option Addr) (n c : Nat) (rs : List RS) (id : Int) (gx : Nat) (w : World) (hr : HRd w A n rs) (hG : GOk w) (hm : hubMay (nx, subs rs) = false) :
    Calls Tryd.prog 28 #[.agg #[.int .i64 nx, .slice A n c], .int .i64 id, .func (.func 29) #[] #[.pointer (some ⟨gx, 0, none⟩)]] w fun e w' => e = .returned (.tuple #[.agg #[.int .i64 0, .slice none 0 0], .int .i64 8]) ∧ Below w.heap.size w w' := by
  have hC := hid (fun W h k => hcheck_lit 8 nx A n c rs (by rw [hm]; rfl) W h k)
  have HR := hid hr
  have HG := hid hG
  have hl := hid hr.len
  clear hr hG
  go_enter Tryd.func28, Tryd.ntmps28
  go_wp2_with (first
    | (refine wpList_bx rfl 24 _ rfl #[.int .i64 nx, .slice A n c] rfl ?_; intro w1 hB1 hb1 hy; have hz1 := hid hy; clear hy)
    | ((with_reducible refine at_alloc (d := some 6) 24 ?_); refine wpList_al rfl 24 rfl _ (hub_zero _) ?_; intro w2 hB2 hb2 hy; have hz2 := hid hy; clear hy; have X0 := hid (below_chain hb1 hb2); have X1 := hid (hB1.belowS hb2); have X2 := hid hB2; have hs1 : w.heap.size < w1.heap.size := (by have := hz1.out; omega); have hs2 := hid hB2.lt; clear hB1 hb1 hz1 hB2 hb2 hz2; generalize w1.heap.size = g2 at X2 hs1 hs2 ⊢; obtain ⟨a0, a1, a2, a3⟩ := two_facts X1.out; obtain ⟨c0, c1, c2, c3⟩ := two_facts X2.out))
  go_step3
  go_wp2_with (first
    | ((with_reducible refine (hC.out _ (HR.out.below X0.out) (HG.out.below X0.out)).mono ?_); rintro e w3 ⟨rfl, hb3⟩; clear a0 a1 a2 a3 c0 c1 c2 c3; obtain ⟨a0, a1, a2, a3⟩ := two_facts (X1.out.belowS hb3); obtain ⟨c0, c1, c2, c3⟩ := two_facts (X2.out.belowS hb3))
    | ((with_reducible refine at_build 24 ?_); refine wpList_bd rfl 24 rfl _ (hub_built _) ?_))
  have B := (X2.out.belowS hb3).both (c := .int .i64 0) (d := .slice none 0 0)
  have hbf := below_both (g := g2) (below_chain X0.out hb3) (.int .i64 0) (.slice none 0 0) (by omega)
  generalize (w3.setCell ⟨g2, 0, none⟩ (.int .i64 0)).setCell ⟨g2, 1, none⟩ (.slice none 0 0) = wf at *
  obtain ⟨g0, g1, _, _⟩ := two_facts B
  try rw [Exit.noGoto_ret]
  exact bodyPost_ret (v := .tuple #[.agg #[.int .i64 0, .slice none 0 0], .int .i64 8]) (by simp [results, Tryd.f28, go_sem, g0, g1]) rfl ⟨rfl, hbf⟩

set_option maxRecDepth 100000 in
set_option maxHeartbeats 4000000 in
theorem turnedP_none (nx : Int) (A : Option Addr) (n c : Nat) (rs : List RS) (id : Int) (gx : Nat) (w : World) (hr : HRd w A n rs) (hG : GOk w) (hm : hubMay (nx, subs rs) = true) (hp : (subs rs).length ≤ place id (subs rs)) :
    Calls Tryd.prog 28 #[.agg #[.int .i64 nx, .slice A n c], .int .i64 id, .func (.func 29) #[] #[.pointer (some ⟨gx, 0, none⟩)]] w fun e w' => e = .returned (.tuple #[.agg #[.int .i64 0, .slice none 0 0], .int .i64 2]) ∧ Below w.heap.size w w' := by
  have hC := hid (fun W h k => hcheck_lit 0 nx A n c rs (by rw [hm]; rfl) W h k)
  have HR := hid hr
  have HG := hid hG
  have hl := hid hr.len
  have hnx := isNum_iff.1 (hubMay_parts hm).1
  have hn16 : n ≤ 16 := by have := (hubMay_parts hm).2.1; have := hr.len; simp [subs] at *; omega
  have hT := hid (fun W (h : HRd W A n rs) => htwin_any nx A n c rs W h (by omega) (hubMay_its hm))
  clear hr hG
  go_enter Tryd.func28, Tryd.ntmps28
  go_wp2_with (first
    | (refine wpList_bx rfl 24 _ rfl #[.int .i64 nx, .slice A n c] rfl ?_; intro w1 hB1 hb1 hy; have hz1 := hid hy; clear hy)
    | ((with_reducible refine at_alloc (d := some 6) 24 ?_); refine wpList_al rfl 24 rfl _ (hub_zero _) ?_; intro w2 hB2 hb2 hy; have hz2 := hid hy; clear hy; have X0 := hid (below_chain hb1 hb2); have X1 := hid (hB1.belowS hb2); have X2 := hid hB2; have hs1 : w.heap.size < w1.heap.size := (by have := hz1.out; omega); have hs2 := hid hB2.lt; clear hB1 hb1 hz1 hB2 hb2 hz2; generalize w1.heap.size = g2 at X2 hs1 hs2 ⊢; obtain ⟨a0, a1, a2, a3⟩ := two_facts X1.out; obtain ⟨c0, c1, c2, c3⟩ := two_facts X2.out))
  go_step3
  go_wp2_with (first
    | ((with_reducible refine (hC.out _ (HR.out.below X0.out) (HG.out.below X0.out)).mono ?_); rintro e w3 ⟨rfl, hb3⟩; clear a0 a1 a2 a3 c0 c1 c2 c3; obtain ⟨a0, a1, a2, a3⟩ := two_facts (X1.out.belowS hb3); obtain ⟨c0, c1, c2, c3⟩ := two_facts (X2.out.belowS hb3))
    | ((with_reducible refine at_build 24 ?_); refine wpList_bd rfl 24 rfl _ (hub_built _) ?_)
    | ((with_reducible refine (hT.out _ (HR.out.below (below_chain X0.out hb3))).mono ?_); rintro e w4 ⟨D, m, d, rs', rfl, hsub, hO, hb4⟩)
    | ((with_reducible refine at_alloc (d := some 9) 24 ?_); refine wpList_al rfl 24 rfl _ (hub_zero _) ?_; intro w5 hB5 hb5 hy; have hz5 := hid hy; clear hy; clear a0 a1 a2 a3 c0 c1 c2 c3; obtain ⟨d0, d1, d2, d3⟩ := two_facts hB5))
  have hm16 : m ≤ 16 := sub_count hsub hO hl.out hn16
  have hml := hid (show m = (subs rs).length by rw [← hsub]; have := hO.len; simp [subs] at *; omega)
  have hA9 := hO.apart (Nat.le_refl w4.heap.size)
  have hCh := chg_both w5 w4.heap.size (.int .i64 nx) (.slice D m d)
  have hO6 := (hO.below hb5).chgA hA9 hCh
  have B9 : Blk ((w5.setCell ⟨w4.heap.size, 0, none⟩ (.int .i64 nx)).setCell ⟨w4.heap.size, 1, none⟩ (.slice D m d)) w4.heap.size 24 #[.int .i64 nx, .slice D m d] := hB5.both
  have hlo : g2 < w3.heap.size := by have := hs2.out; have := hb3.size; omega
  have hlo4 : w3.heap.size ≤ w4.heap.size := hb4.size
  have hb05 := below_chain (below_chain (below_chain X0.out hb3) hb4) hb5
  have hb06 := below_chgA hb05 hCh (by have := X0.out.size; have := hb3.size; omega)
  have X1 := hid (hCh.blk (((X1.out.belowS hb3).belowS hb4).belowS hb5) (by have := X0.out.size; have := hb3.size; omega))
  have X2 := hid (hCh.blk (((X2.out.belowS hb3).belowS hb4).belowS hb5) (by omega))
  have hlw : w.heap.size ≤ w3.heap.size := by have := X0.out.size; have := hb3.size; omega
  have X0 := hid hb06
  clear hB5 hb5 hz5 hb05 hb06 hCh hO d0 d1 d2 d3
  generalize (w5.setCell ⟨w4.heap.size, 0, none⟩ (.int .i64 nx)).setCell ⟨w4.heap.size, 1, none⟩ (.slice D m d) = w6 at *
  have hg9 := B9.lt
  generalize w4.heap.size = g9 at *
  obtain ⟨d0, d1, d2, d3⟩ := two_facts B9
  have HO := hid hO6
  have HA := hid hA9
  have HB := hid B9
  have HS := hid hsub
  clear hO6 hA9 B9 hsub
  go_wp2_with fail
  go_step3
  go_wp2_with fail
  go_loop [10, 24] (fun a i => ∃ k : Nat, k ≤ m ∧ a = .int .i64 (-1) ∧ i = .int .i64 k) (fun _ i => m - (intOf i).toNat)
  case atStart => exact ⟨0, Nat.zero_le _, rfl, rfl⟩
  case round =>
    obtain ⟨k, hk, rfl, rfl⟩ := hrel
    by_cases hlt : k < m
    · skip
      have hx' : rs'[k]? = some (rs'[k]'(by have := HO.out.len; omega)) := List.getElem?_eq_getElem _
      generalize rs'[k]'(by have := HO.out.len; omega) = r at hx'
      obtain ⟨g, hD, hrow, _, hgl⟩ := HO.out.1.base (by omega)
      have hD' := hid hD
      subst hD
      obtain ⟨t0, _⟩ := HO.out.1.tapAt hx'
      have hsx : (subs rs)[k]? = some r.1 := by rw [← HS.out]; simp [subs, hx']
      have hti : (k : Int) < (m : Int) := by omega
      have htz : (0 : Int) ≤ (k : Int) := by omega
      have hne : (r.1.1 == id) = false := by simpa using place_no (id := id) (by have := hml.out; omega) hsx
      have HX := hid hx'
      have HSX := hid hsx
      clear hx' hsx
      generalize r.1.1 = ri at *
      go_wp2_with fail
      exact ⟨⟨k + 1, by omega, rfl, by go_num⟩, by simp [intOf]; omega⟩
    · obtain rfl : k = m := by omega
      have hti : ¬ (k : Int) < (k : Int) := by omega
      obtain ⟨c0, c1, c2, c3⟩ := two_facts X2.out
      go_wp2_with (first
    | ((with_reducible refine at_build 24 ?_); refine wpList_bd rfl 24 rfl _ (hub_built _) ?_))
      have B := X2.out.both (c := .int .i64 0) (d := .slice none 0 0)
      have hbf := below_both (g := g2) X0.out (.int .i64 0) (.slice none 0 0) (by omega)
      generalize (w6.setCell ⟨g2, 0, none⟩ (.int .i64 0)).setCell ⟨g2, 1, none⟩ (.slice none 0 0) = wf at *
      obtain ⟨g0, g1, _, _⟩ := two_facts B
      try rw [Exit.noGoto_ret]
      exact bodyPost_ret (v := .tuple #[.agg #[.int .i64 0, .slice none 0 0], .int .i64 2]) (by simp [results, Tryd.f28, go_sem, g0, g1]) rfl ⟨rfl, hbf⟩

set_option maxRecDepth 100000 in
set_option maxHeartbeats 4000000 in
theorem turnedP_ok (nx : Int) (A : Option Addr) (n c : Nat) (rs : List RS) (id : Int) (gx : Nat) (w : World) (hr : HRd w A n rs) (hG : GOk w) (hm : hubMay (nx, subs rs) = true) (lF : List Sub) (er : Int) (extra : Nat → Prop) (Y : World → Prop) (hx : ∀ b, extra b → b < w.heap.size) (hY : ∀ W W', Chg W W' (fun b => w.heap.size ≤ b) → Y W → Y W') (hp : place id (subs rs) < (subs rs).length)
    (hF : ∀ (W : World) (lo gh : Nat) (D : Option Addr) (m d : Nat) (rs' : List RS), Blk W gh 24 #[.int .i64 nx, .slice D m d] → HOwn W lo D m d rs' → HApart gh D d rs' → lo ≤ gh → w.heap.size ≤ lo → subs rs' = subs rs → GOk W → m = (subs rs).length → m ≤ 16 → Below w.heap.size w W →
      Calls Tryd.prog 29 (#[.pointer (some ⟨gh, 0, none⟩), .int .i64 ((place id (subs rs) : Nat) : Int), .pointer (some ⟨gx, 0, none⟩)]) W (DoPost W lo gh nx extra Y lF er)) (he : er = 0) :
    Calls Tryd.prog 28 #[.agg #[.int .i64 nx, .slice A n c], .int .i64 id, .func (.func 29) #[] #[.pointer (some ⟨gx, 0, none⟩)]] w fun e w' => ∃ D m d rs', e = .returned (.tuple #[.agg #[.int .i64 nx, .slice D m d], .int .i64 0]) ∧ HOwn w' w.heap.size D m d rs' ∧ subs rs' = lF ∧ Chg w w' extra ∧ Y w' := by
  have hC := hid (fun W h k => hcheck_lit 0 nx A n c rs (by rw [hm]; rfl) W h k)
  have HR := hid hr
  have HG := hid hG
  have hl := hid hr.len
  have hnx := isNum_iff.1 (hubMay_parts hm).1
  have hn16 : n ≤ 16 := by have := (hubMay_parts hm).2.1; have := hr.len; simp [subs] at *; omega
  have hT := hid (fun W (h : HRd W A n rs) => htwin_any nx A n c rs W h (by omega) (hubMay_its hm))
  subst he
  clear hr hG
  go_enter Tryd.func28, Tryd.ntmps28
  go_wp2_with (first
    | (refine wpList_bx rfl 24 _ rfl #[.int .i64 nx, .slice A n c] rfl ?_; intro w1 hB1 hb1 hy; have hz1 := hid hy; clear hy)
    | ((with_reducible refine at_alloc (d := some 6) 24 ?_); refine wpList_al rfl 24 rfl _ (hub_zero _) ?_; intro w2 hB2 hb2 hy; have hz2 := hid hy; clear hy; have X0 := hid (below_chain hb1 hb2); have X1 := hid (hB1.belowS hb2); have X2 := hid hB2; have hs1 : w.heap.size < w1.heap.size := (by have := hz1.out; omega); have hs2 := hid hB2.lt; clear hB1 hb1 hz1 hB2 hb2 hz2; generalize w1.heap.size = g2 at X2 hs1 hs2 ⊢; obtain ⟨a0, a1, a2, a3⟩ := two_facts X1.out; obtain ⟨c0, c1, c2, c3⟩ := two_facts X2.out))
  go_step3
  go_wp2_with (first
    | ((with_reducible refine (hC.out _ (HR.out.below X0.out) (HG.out.below X0.out)).mono ?_); rintro e w3 ⟨rfl, hb3⟩; clear a0 a1 a2 a3 c0 c1 c2 c3; obtain ⟨a0, a1, a2, a3⟩ := two_facts (X1.out.belowS hb3); obtain ⟨c0, c1, c2, c3⟩ := two_facts (X2.out.belowS hb3))
    | ((with_reducible refine at_build 24 ?_); refine wpList_bd rfl 24 rfl _ (hub_built _) ?_)
    | ((with_reducible refine (hT.out _ (HR.out.below (below_chain X0.out hb3))).mono ?_); rintro e w4 ⟨D, m, d, rs', rfl, hsub, hO, hb4⟩)
    | ((with_reducible refine at_alloc (d := some 9) 24 ?_); refine wpList_al rfl 24 rfl _ (hub_zero _) ?_; intro w5 hB5 hb5 hy; have hz5 := hid hy; clear hy; clear a0 a1 a2 a3 c0 c1 c2 c3; obtain ⟨d0, d1, d2, d3⟩ := two_facts hB5))
  have hm16 : m ≤ 16 := sub_count hsub hO hl.out hn16
  have hml := hid (show m = (subs rs).length by rw [← hsub]; have := hO.len; simp [subs] at *; omega)
  have hA9 := hO.apart (Nat.le_refl w4.heap.size)
  have hCh := chg_both w5 w4.heap.size (.int .i64 nx) (.slice D m d)
  have hO6 := (hO.below hb5).chgA hA9 hCh
  have B9 : Blk ((w5.setCell ⟨w4.heap.size, 0, none⟩ (.int .i64 nx)).setCell ⟨w4.heap.size, 1, none⟩ (.slice D m d)) w4.heap.size 24 #[.int .i64 nx, .slice D m d] := hB5.both
  have hlo : g2 < w3.heap.size := by have := hs2.out; have := hb3.size; omega
  have hlo4 : w3.heap.size ≤ w4.heap.size := hb4.size
  have hb05 := below_chain (below_chain (below_chain X0.out hb3) hb4) hb5
  have hb06 := below_chgA hb05 hCh (by have := X0.out.size; have := hb3.size; omega)
  have X1 := hid (hCh.blk (((X1.out.belowS hb3).belowS hb4).belowS hb5) (by have := X0.out.size; have := hb3.size; omega))
  have X2 := hid (hCh.blk (((X2.out.belowS hb3).belowS hb4).belowS hb5) (by omega))
  have hlw : w.heap.size ≤ w3.heap.size := by have := X0.out.size; have := hb3.size; omega
  have X0 := hid hb06
  clear hB5 hb5 hz5 hb05 hb06 hCh hO d0 d1 d2 d3
  generalize (w5.setCell ⟨w4.heap.size, 0, none⟩ (.int .i64 nx)).setCell ⟨w4.heap.size, 1, none⟩ (.slice D m d) = w6 at *
  have hg9 := B9.lt
  generalize w4.heap.size = g9 at *
  obtain ⟨d0, d1, d2, d3⟩ := two_facts B9
  have HO := hid hO6
  have HA := hid hA9
  have HB := hid B9
  have HS := hid hsub
  clear hO6 hA9 B9 hsub
  go_wp2_with fail
  go_step3
  go_wp2_with fail
  go_loop [10, 24] (fun a i => ∃ k : Nat, k ≤ place id (subs rs) ∧ a = .int .i64 (-1) ∧ i = .int .i64 k) (fun _ i => m - (intOf i).toNat)
  case atStart => exact ⟨0, Nat.zero_le _, rfl, rfl⟩
  case round =>
    obtain ⟨k, hk, rfl, rfl⟩ := hrel
    have hkm : k < m := by have := hml.out; omega
    have hx' : rs'[k]? = some (rs'[k]'(by have := HO.out.len; omega)) := List.getElem?_eq_getElem _
    generalize rs'[k]'(by have := HO.out.len; omega) = r at hx'
    obtain ⟨g, hD, hrow, _, hgl⟩ := HO.out.1.base (by omega)
    have hD' := hid hD
    subst hD
    obtain ⟨t0, _⟩ := HO.out.1.tapAt hx'
    have hsx : (subs rs)[k]? = some r.1 := by rw [← HS.out]; simp [subs, hx']
    have hti : (k : Int) < (m : Int) := by omega
    have htz : (0 : Int) ≤ (k : Int) := by omega
    by_cases hlt : k < place id (subs rs)
    · have hne : (r.1.1 == id) = false := by simpa using place_no (id := id) hlt hsx
      have HX := hid hx'
      have HSX := hid hsx
      clear hx' hsx
      generalize r.1.1 = ri at *
      go_wp2_with fail
      exact ⟨⟨k + 1, by omega, rfl, by go_num⟩, by simp [intOf]; omega⟩
    · obtain rfl : k = place id (subs rs) := by omega
      have hri : r.1.1 = id := place_yes hsx
      rw [hri] at t0
      have hcall := hid (hF w6 w3.heap.size g9 (some ⟨g, 0, none⟩) m d rs' HB.out HO.out HA.out hlo4 hlw HS.out (HG.out.below X0.out) hml.out hm16 X0.out)
      have HX := hid hx'
      have HSX := hid hsx
      clear hx' hsx hri hF
      generalize place id (subs rs) = k at *
      go_wp2_with (first
        | ((with_reducible refine hcall.out.mono ?_); rintro e w7 ⟨rfl, hc7, hY7, hres⟩; obtain ⟨D7, m7, d7, rs7, hB7, hO7, hA7, hs7⟩ := hres rfl; clear d0 d1 d2 d3; obtain ⟨d0, d1, d2, d3⟩ := two_facts hB7; have Y2 := hc7.blk X2.out (fun h => h.elim (fun h => by omega) (fun h => by have := hx _ h; omega)); obtain ⟨c0, c1, c2, c3⟩ := two_facts Y2))
      have B := Y2.both (c := .int .i64 nx) (d := .slice D7 m7 d7)
      have hCg := chg_both w7 g2 (.int .i64 nx) (.slice D7 m7 d7)
      have hOf := hO7.chg hCg (fun b hb e => by omega)
      have hYf := hY _ _ (⟨hCg.os, hCg.tape, hCg.output, hCg.size, fun b hl hn => hCg.block b hl (fun e => hn (by omega))⟩ : Chg w7 _ (fun b => w.heap.size ≤ b)) hY7
      have hcf := ((Chg.of_below X0.out).trans hc7 (bad := extra) (fun b e => e.elim) (fun b hb e => e.elim (fun h => by have := hlw; omega) (fun h => h))).trans hCg (bad := extra) (fun b e => e) (fun b hb e => by omega)
      generalize (w7.setCell ⟨g2, 0, none⟩ (.int .i64 nx)).setCell ⟨g2, 1, none⟩ (.slice D7 m7 d7) = wf at *
      obtain ⟨g0, g1, _, _⟩ := two_facts B
      try rw [Exit.noGoto_ret]
      exact bodyPost_ret (v := .tuple #[.agg #[.int .i64 nx, .slice D7 m7 d7], .int .i64 0]) (by simp [results, Tryd.f28, go_sem, g0, g1]) rfl ⟨D7, m7, d7, rs7, rfl, hOf.low (by omega), hs7, hcf, hYf⟩

set_option maxRecDepth 100000 in
set_option maxHeartbeats 4000000 in
theorem turnedP_err (nx : Int) (A : Option Addr) (n c : Nat) (rs : List RS) (id : Int) (gx : Nat) (w : World) (hr : HRd w A n rs) (hG : GOk w) (hm : hubMay (nx, subs rs) = true) (lF : List Sub) (er : Int) (extra : Nat → Prop) (Y : World → Prop) (hx : ∀ b, extra b → b < w.heap.size) (hY : ∀ W W', Chg W W' (fun b => w.heap.size ≤ b) → Y W → Y W') (hp : place id (subs rs) < (subs rs).length)
    (hF : ∀ (W : World) (lo gh : Nat) (D : Option Addr) (m d : Nat) (rs' : List RS), Blk W gh 24 #[.int .i64 nx, .slice D m d] → HOwn W lo D m d rs' → HApart gh D d rs' → lo ≤ gh → w.heap.size ≤ lo → subs rs' = subs rs → GOk W → m = (subs rs).length → m ≤ 16 → Below w.heap.size w W →
      Calls Tryd.prog 29 (#[.pointer (some ⟨gh, 0, none⟩), .int .i64 ((place id (subs rs) : Nat) : Int), .pointer (some ⟨gx, 0, none⟩)]) W (DoPost W lo gh nx extra Y lF er)) (he : (er == 0) = false) :
    Calls Tryd.prog 28 #[.agg #[.int .i64 nx, .slice A n c], .int .i64 id, .func (.func 29) #[] #[.pointer (some ⟨gx, 0, none⟩)]] w fun e w' => e = .returned (.tuple #[.agg #[.int .i64 0, .slice none 0 0], .int .i64 er]) ∧ Chg w w' extra ∧ Y w' := by
  have hC := hid (fun W h k => hcheck_lit 0 nx A n c rs (by rw [hm]; rfl) W h k)
  have HR := hid hr
  have HG := hid hG
  have hl := hid hr.len
  have hnx := isNum_iff.1 (hubMay_parts hm).1
  have hn16 : n ≤ 16 := by have := (hubMay_parts hm).2.1; have := hr.len; simp [subs] at *; omega
  have hT := hid (fun W (h : HRd W A n rs) => htwin_any nx A n c rs W h (by omega) (hubMay_its hm))
  clear hr hG
  go_enter Tryd.func28, Tryd.ntmps28
  go_wp2_with (first
    | (refine wpList_bx rfl 24 _ rfl #[.int .i64 nx, .slice A n c] rfl ?_; intro w1 hB1 hb1 hy; have hz1 := hid hy; clear hy)
    | ((with_reducible refine at_alloc (d := some 6) 24 ?_); refine wpList_al rfl 24 rfl _ (hub_zero _) ?_; intro w2 hB2 hb2 hy; have hz2 := hid hy; clear hy; have X0 := hid (below_chain hb1 hb2); have X1 := hid (hB1.belowS hb2); have X2 := hid hB2; have hs1 : w.heap.size < w1.heap.size := (by have := hz1.out; omega); have hs2 := hid hB2.lt; clear hB1 hb1 hz1 hB2 hb2 hz2; generalize w1.heap.size = g2 at X2 hs1 hs2 ⊢; obtain ⟨a0, a1, a2, a3⟩ := two_facts X1.out; obtain ⟨c0, c1, c2, c3⟩ := two_facts X2.out))
  go_step3
  go_wp2_with (first
    | ((with_reducible refine (hC.out _ (HR.out.below X0.out) (HG.out.below X0.out)).mono ?_); rintro e w3 ⟨rfl, hb3⟩; clear a0 a1 a2 a3 c0 c1 c2 c3; obtain ⟨a0, a1, a2, a3⟩ := two_facts (X1.out.belowS hb3); obtain ⟨c0, c1, c2, c3⟩ := two_facts (X2.out.belowS hb3))
    | ((with_reducible refine at_build 24 ?_); refine wpList_bd rfl 24 rfl _ (hub_built _) ?_)
    | ((with_reducible refine (hT.out _ (HR.out.below (below_chain X0.out hb3))).mono ?_); rintro e w4 ⟨D, m, d, rs', rfl, hsub, hO, hb4⟩)
    | ((with_reducible refine at_alloc (d := some 9) 24 ?_); refine wpList_al rfl 24 rfl _ (hub_zero _) ?_; intro w5 hB5 hb5 hy; have hz5 := hid hy; clear hy; clear a0 a1 a2 a3 c0 c1 c2 c3; obtain ⟨d0, d1, d2, d3⟩ := two_facts hB5))
  have hm16 : m ≤ 16 := sub_count hsub hO hl.out hn16
  have hml := hid (show m = (subs rs).length by rw [← hsub]; have := hO.len; simp [subs] at *; omega)
  have hA9 := hO.apart (Nat.le_refl w4.heap.size)
  have hCh := chg_both w5 w4.heap.size (.int .i64 nx) (.slice D m d)
  have hO6 := (hO.below hb5).chgA hA9 hCh
  have B9 : Blk ((w5.setCell ⟨w4.heap.size, 0, none⟩ (.int .i64 nx)).setCell ⟨w4.heap.size, 1, none⟩ (.slice D m d)) w4.heap.size 24 #[.int .i64 nx, .slice D m d] := hB5.both
  have hlo : g2 < w3.heap.size := by have := hs2.out; have := hb3.size; omega
  have hlo4 : w3.heap.size ≤ w4.heap.size := hb4.size
  have hb05 := below_chain (below_chain (below_chain X0.out hb3) hb4) hb5
  have hb06 := below_chgA hb05 hCh (by have := X0.out.size; have := hb3.size; omega)
  have X1 := hid (hCh.blk (((X1.out.belowS hb3).belowS hb4).belowS hb5) (by have := X0.out.size; have := hb3.size; omega))
  have X2 := hid (hCh.blk (((X2.out.belowS hb3).belowS hb4).belowS hb5) (by omega))
  have hlw : w.heap.size ≤ w3.heap.size := by have := X0.out.size; have := hb3.size; omega
  have X0 := hid hb06
  clear hB5 hb5 hz5 hb05 hb06 hCh hO d0 d1 d2 d3
  generalize (w5.setCell ⟨w4.heap.size, 0, none⟩ (.int .i64 nx)).setCell ⟨w4.heap.size, 1, none⟩ (.slice D m d) = w6 at *
  have hg9 := B9.lt
  generalize w4.heap.size = g9 at *
  obtain ⟨d0, d1, d2, d3⟩ := two_facts B9
  have HO := hid hO6
  have HA := hid hA9
  have HB := hid B9
  have HS := hid hsub
  clear hO6 hA9 B9 hsub
  go_wp2_with fail
  go_step3
  go_wp2_with fail
  go_loop [10, 24] (fun a i => ∃ k : Nat, k ≤ place id (subs rs) ∧ a = .int .i64 (-1) ∧ i = .int .i64 k) (fun _ i => m - (intOf i).toNat)
  case atStart => exact ⟨0, Nat.zero_le _, rfl, rfl⟩
  case round =>
    obtain ⟨k, hk, rfl, rfl⟩ := hrel
    have hkm : k < m := by have := hml.out; omega
    have hx' : rs'[k]? = some (rs'[k]'(by have := HO.out.len; omega)) := List.getElem?_eq_getElem _
    generalize rs'[k]'(by have := HO.out.len; omega) = r at hx'
    obtain ⟨g, hD, hrow, _, hgl⟩ := HO.out.1.base (by omega)
    have hD' := hid hD
    subst hD
    obtain ⟨t0, _⟩ := HO.out.1.tapAt hx'
    have hsx : (subs rs)[k]? = some r.1 := by rw [← HS.out]; simp [subs, hx']
    have hti : (k : Int) < (m : Int) := by omega
    have htz : (0 : Int) ≤ (k : Int) := by omega
    by_cases hlt : k < place id (subs rs)
    · have hne : (r.1.1 == id) = false := by simpa using place_no (id := id) hlt hsx
      have HX := hid hx'
      have HSX := hid hsx
      clear hx' hsx
      generalize r.1.1 = ri at *
      go_wp2_with fail
      exact ⟨⟨k + 1, by omega, rfl, by go_num⟩, by simp [intOf]; omega⟩
    · obtain rfl : k = place id (subs rs) := by omega
      have hri : r.1.1 = id := place_yes hsx
      rw [hri] at t0
      have hcall := hid (hF w6 w3.heap.size g9 (some ⟨g, 0, none⟩) m d rs' HB.out HO.out HA.out hlo4 hlw HS.out (HG.out.below X0.out) hml.out hm16 X0.out)
      have HX := hid hx'
      have HSX := hid hsx
      clear hx' hsx hri hF
      generalize place id (subs rs) = k at *
      go_wp2_with (first
        | ((with_reducible refine hcall.out.mono ?_); rintro e w7 ⟨rfl, hc7, hY7, hres⟩; clear d0 d1 d2 d3; have Y2 := hc7.blk X2.out (fun h => h.elim (fun h => by omega) (fun h => by have := hx _ h; omega)); obtain ⟨c0, c1, c2, c3⟩ := two_facts Y2)
        | ((with_reducible refine at_build 24 ?_); refine wpList_bd rfl 24 rfl _ (hub_built _) ?_))
      have B := Y2.both (c := .int .i64 0) (d := .slice none 0 0)
      have hCg := chg_both w7 g2 (.int .i64 0) (.slice none 0 0)
      have hYf := hY _ _ (⟨hCg.os, hCg.tape, hCg.output, hCg.size, fun b hl hn => hCg.block b hl (fun e => hn (by omega))⟩ : Chg w7 _ (fun b => w.heap.size ≤ b)) hY7
      have hcf := ((Chg.of_below X0.out).trans hc7 (bad := extra) (fun b e => e.elim) (fun b hb e => e.elim (fun h => by have := hlw; omega) (fun h => h))).trans hCg (bad := extra) (fun b e => e) (fun b hb e => by omega)
      generalize (w7.setCell ⟨g2, 0, none⟩ (.int .i64 0)).setCell ⟨g2, 1, none⟩ (.slice none 0 0) = wf at *
      obtain ⟨g0, g1, _, _⟩ := two_facts B
      try rw [Exit.noGoto_ret]
      exact bodyPost_ret (v := .tuple #[.agg #[.int .i64 0, .slice none 0 0], .int .i64 er]) (by simp [results, Tryd.f28, go_sem, g0, g1]) rfl ⟨rfl, hcf, hYf⟩
end Go.Proofs.YtmepbokoopgmiaaDoor
