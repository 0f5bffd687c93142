/-
  Contracts of the reference's Added and Join of a hub. No condition beyond those each theorem names.
-/
import Derived.Test.YtmepbokoopgmiaaDoorHubZc
import Derived.Test.YtmepbokoopgmiaaDoorHubG
namespace Go.Proofs.YtmepbokoopgmiaaDoor
open Go.RowKit
set_option linter.unusedSimpArgs false
set_option linter.unusedVariables false

/-- What Added gives. -/
def GivesA (w : World) (r : Hub × Bool) (e : Ending) (w' : World) : Prop :=
  ∃ D m c rs, e = .returned (.tuple #[.agg #[.int .i64 r.1.1, .slice D m c], .bool r.2]) ∧ subs rs = r.1.2 ∧ HOwn w' w.heap.size D m c rs ∧ Below w.heap.size w w'
theorem HApart.push {g d d' N : Nat} {D D' : Option Addr} {rs : List RS} (h : HApart g D d rs) (hat : rowOf D' d' = rowOf D d ∨ rowOf D' d' = none ∨ rowOf D' d' = some N) (hN : g < N) (s : Sub) : HApart g D' d' (rs ++ [(s, none, 0, 0)]) := by
  refine ⟨fun e => ?_, fun r hr hm b o e => ?_⟩
  · rcases hat with k | k | k
    · exact h.1 (k ▸ e)
    · rw [k] at e; cases e
    · rw [k] at e; have := Option.some.inj e; omega
  · rcases List.mem_append.1 hr with hr | hr
    · exact h.2 r hr hm b o e
    · simp only [List.mem_singleton] at hr
      subst hr
      exact absurd hm (Nat.lt_irrefl 0)
/-- A hub with a subscriber more; false: it is full. -/
def addedT (h : Hub) (most fr : Int) : Hub × Bool := if (h.2.length : Int) < most ∧ h.1 ≠ 1073741823 then ((h.1 + 1, h.2 ++ [(h.1, fr, [], false)]), true) else (zeroHub, false)

set_option maxRecDepth 100000 in
set_option maxHeartbeats 4000000 in
theorem added_full (h : Hub) (A : Option Addr) (n c : Nat) (most fr : Int) (w : World) (hh : HubIn w h A n) (h4 : most ≤ (n : Int) ∨ h.1 = 1073741823) :
    Calls Tryd.prog 37 #[.agg #[.int .i64 h.1, .slice A n c], .int .i64 most, .int .i64 fr] w (GivesA w (zeroHub, false)) := by
  clear hh
  generalize h.1 = nx at *
  by_cases h5 : most ≤ (n : Int)
  all_goals
    first
      | (have h6 : (n : Int) ≥ most := h5)
      | (have h6 : ¬ (n : Int) ≥ most := h5; have h7 : nx = 1073741823 := h4.resolve_left h5; subst h7)
    clear h4
    go_enter Tryd.func37, Tryd.ntmps37
    go_wp2_with (first
      | (refine wpList_bx rfl 24 _ rfl #[.int .i64 _, .slice A n c] rfl ?_; intro w1 hB1 hb1 hy; have hz1 := hid hy; clear hy)
      | ((with_reducible refine at_alloc 24 ?_); refine wpList_al rfl 24 rfl _ (hub_zero _) ?_; intro w2 hB2 hb2 hy; clear hy; obtain ⟨a0, a1, a2, a3⟩ := two_facts (hB1.belowS hb2); obtain ⟨c0, c1, c2, c3⟩ := two_facts hB2; have n1 : w.heap.size ≠ w1.heap.size := by have := hz1.out; omega)
      | ((with_reducible refine at_build 24 ?_); refine wpList_bd rfl 24 rfl _ (hub_built _) ?_))
    have B := hB2.both (c := .int .i64 0) (d := .slice none 0 0)
    have hbf := below_both (g := w1.heap.size) (below_chain hb1 hb2) (.int .i64 0) (.slice none 0 0) hb1.size
    generalize (w2.setCell ⟨w1.heap.size, 0, none⟩ (.int .i64 0)).setCell ⟨w1.heap.size, 1, none⟩ (.slice none 0 0) = wf at *
    obtain ⟨g0, g1, _, _⟩ := two_facts B
    exact bodyPost_ret (v := .tuple #[.agg #[.int .i64 0, .slice none 0 0], .bool false]) (by simp [results, Tryd.f37, go_sem, g0, g1]) rfl ⟨none, 0, 0, [], rfl, rfl, HOwn.nil _ _ _, hbf⟩

set_option maxRecDepth 100000 in
set_option maxHeartbeats 8000000 in
theorem added_ok (h : Hub) (A : Option Addr) (n c : Nat) (most fr : Int) (w : World) (hh : HubIn w h A n) (hn : n ≤ 1000) (hs : ∀ s ∈ h.2, s.2.2.1.length ≤ 1000) (h4 : (n : Int) < most) (h0 : 0 ≤ h.1) (h1 : h.1 < 1073741823) :
    Calls Tryd.prog 37 #[.agg #[.int .i64 h.1, .slice A n c], .int .i64 most, .int .i64 fr] w (GivesA w ((h.1 + 1, h.2 ++ [(h.1, fr, [], false)]), true)) := by
  have hT := hid (fun W (k : HubIn W h A n) => twin24_any h A n c W k hn hs)
  have HH := hid hh
  have hl := hid hh.len
  obtain ⟨i0, hi0, hz0, hz1', hz2'⟩ := info_parts sub_info
  clear hh hs
  obtain ⟨nx, ss⟩ := h
  try dsimp only at *
  have h6 : ¬ (n : Int) ≥ most := by omega
  have h7 : ¬ nx = 1073741823 := by omega
  go_enter Tryd.func37, Tryd.ntmps37
  go_upto_region 4 with (first
    | (refine wpList_bx rfl 24 _ rfl #[.int .i64 nx, .slice A n c] rfl ?_; intro w1 hB1 hb1 hy; have hz1 := hid hy; clear hy)
    | ((with_reducible refine at_alloc (d := some 6) 24 ?_); refine wpList_al rfl 24 rfl _ (hub_zero _) ?_; intro w2 hB2 hb2 hy; have hz2 := hid hy; clear hy; have X0 := hid (below_chain hb1 hb2); obtain ⟨a0, a1, a2, a3⟩ := two_facts (hB1.belowS hb2))
    | ((with_reducible refine (hT.out _ (HH.out.below X0.out)).mono ?_); rintro e w3 ⟨D, m, d, rs, rfl, hsub, hO, hb3⟩)
    | ((with_reducible refine at_alloc (d := some 8) 24 ?_); refine wpList_al rfl 24 rfl _ (hub_zero _) ?_; intro w4 hB4 hb4 hy; clear hy)
    | ((with_reducible refine at_store 24 ?_); refine wpList_str rfl 24 _ _ rfl w3.heap.size _ rfl rfl _ _ hB4 rfl (hub_size _ _) (one_hub _ _ _ _) ?_; intro w5 hB5 hg5 hy; clear hy))
  have hq5 : Below w3.heap.size w3 w5 := hb4.grown hg5 hb4.size (by intro k e; cases e; exact Nat.le_refl _)
  have hq := below_chain hb3 hq5
  have X1 := hid ((hB1.belowS hb2).belowS hq)
  have X2 := hid (hB2.belowS hq)
  have X8 := hid hB5
  have l1 := hid (show w.heap.size < w1.heap.size by have := hz1.out; omega)
  have l2 := hid (show w1.heap.size < w2.heap.size by have := hz2.out; omega)
  have l3 := hid hb3.size
  have l8 := hid hB5.lt
  have HO := hid (hO.below hq5)
  have HA := hid (hO.apart (g := w3.heap.size) (Nat.le_refl _))
  have hrl := hid (fun g (e : rowOf D d = some g) => (⟨(hO.1.row_lt g e).1, (hO.1.row_lt g e).2⟩ : w2.heap.size ≤ g ∧ g < w3.heap.size))
  have X0 := hid (below_chain X0.out hq)
  have hm : m = n := by have := hO.len; have h2 := congrArg List.length hsub; simp [subs] at h2; have := hl.out; omega
  subst hm
  clear hB1 hb1 hB2 hb2 hO hb3 hB4 hb4 hB5 hg5 hq5 hq a0 a1 a2 a3 hz1 hz2
  generalize w1.heap.size = g2 at *
  generalize w2.heap.size = lo at *
  generalize w3.heap.size = g8 at *
  obtain ⟨a0, a1, a2, a3⟩ := two_facts X1.out
  obtain ⟨b0, b1, b2, b3⟩ := two_facts X8.out
  obtain ⟨c0, c1, c2, c3⟩ := two_facts X2.out
  have n1 : g2 ≠ g8 := by have := l2.out; have := l3.out; omega
  have n2 : g8 ≠ g2 := fun e => n1 e.symm
  have n3 : w.heap.size ≠ g8 := by have := l1.out; have := l2.out; have := l3.out; omega
  have n4 : g8 ≠ w.heap.size := fun e => n3 e.symm
  go_wp2_with (first
    | ((with_reducible refine at_build 53 ?_); refine wpList_b2 rfl 53 0 1 _ _ rfl (.int .i64 nx) (.int .i64 fr) rfl rfl _ (sub_built nx fr _) ?_)
    | ((with_reducible refine at_bslice 22 ?_); refine wpList_bsl1 rfl 22 53 1 0 _ rfl _ rfl _ (sub_bslice nx fr _) ?_; intro w6 hB6 hb6 hy; clear hy; have hO6 := HO.out.below hb6; have hO6r := hO6.1; have hlo6 : lo ≤ w6.heap.size := by have := hb6.size; have := l8.out; have := l3.out; omega)
    | (at_builtin; go_loud (refine wpList_app _ rfl _ _ _ rfl lo 53 i0 _ 4 48 Tryd.underlying22 hi0 hz0 hz1' hz2' zeroS_cells (by omega) D m d _ rfl hO6r _ 1 1 0 [.int .i64 nx, .int .i64 fr, .slice none 0 0, .bool false] rfl ((hB6.rd (n := 1) (sz := 4) rfl).low (Nat.zero_le _)) (rsL_one ((nx, fr, [], false), none, 0, 0)) (by simp only [maxLen]; omega) (by omega) hlo6 ?_); intro D' d' w7 hO7 hg7 hat; clear a0 a1 a2 a3 b0 b1 b2 b3 c0 c1 c2 c3; have Y1 := hid ((X1.out.belowS hb6).grown hg7 (fun e => by have := hrl.out _ e.symm; have := l1.out; have := l2.out; omega)); have Y2 := hid ((X2.out.belowS hb6).grown hg7 (fun e => by have := hrl.out _ e.symm; have := l2.out; omega)); have Y8 := hid ((X8.out.belowS hb6).grown hg7 (fun e => by have := hrl.out _ e.symm; omega)); obtain ⟨a0, a1, a2, a3⟩ := two_facts Y1.out; obtain ⟨b0, b1, b2, b3⟩ := two_facts Y8.out; obtain ⟨c0, c1, c2, c3⟩ := two_facts Y2.out))
  have hH := HOwn.push hO6 (nx, fr, [], false) rfl _ rfl hO7 hg7 hat
  have hA7 := HA.out.push hat (by have := l8.out; have := hb6.size; omega) (nx, fr, [], false)
  have hb7 := (below_chain X0.out hb6).grown hg7 (by have := X0.out.size; have := hb6.size; omega) (fun g e => by have := hrl.out _ e; have := l1.out; have := l2.out; omega)
  have hC8 := ((Chg.refl w7 (fun b => b = g8)).setCell (g := g8) (i := 1) (.slice D' (m + 1) d') (.inl rfl)).setCell (g := g8) (i := 0) (.int .i64 (nx + 1)) (.inl rfl)
  have hH8 := hH.chgA hA7 hC8
  have hb8 := below_of_chg hb7 hC8 (fun b e => by have := l1.out; have := l2.out; have := l3.out; omega)
  have Z2 := hC8.blk Y2.out (by have := l2.out; have := l3.out; omega)
  generalize (w7.setCell ⟨g8, 1, none⟩ (.slice D' (m + 1) d')).setCell ⟨g8, 0, none⟩ (.int .i64 (nx + 1)) = w8 at *
  have hC9 := chg_both w8 g2 (.int .i64 (nx + 1)) (.slice D' (m + 1) d')
  have B := Z2.both (c := .int .i64 (nx + 1)) (d := .slice D' (m + 1) d')
  have hHf := hH8.chg hC9 (fun b hb e => by have := l2.out; omega)
  have hbf := below_of_chg hb8 hC9 (fun b e => by have := l1.out; omega)
  generalize (w8.setCell ⟨g2, 0, none⟩ (.int .i64 (nx + 1))).setCell ⟨g2, 1, none⟩ (.slice D' (m + 1) d') = wf at *
  obtain ⟨e0, e1, _, _⟩ := two_facts B
  exact bodyPost_ret (v := .tuple #[.agg #[.int .i64 (nx + 1), .slice D' (m + 1) d'], .bool true]) (by simp [results, Tryd.f37, go_sem, e0, e1]) rfl ⟨D', m + 1, d', _, rfl, by simp [subs] at hsub ⊢; exact hsub, hHf.low (by have := l1.out; have := l2.out; omega), hbf⟩

theorem hubMay_its1 {h : Hub} (hm : hubMay h = true) : ∀ s ∈ h.2, s.2.2.1.length ≤ 1000 := fun s hs => by
  have := itsMay_len (subsMay_lt (hubMay_parts hm).2.2 s hs).2.2.2
  omega
theorem added_any (h : Hub) (A : Option Addr) (n c : Nat) (most fr : Int) (w : World) (hh : HubIn w h A n) (hm : hubMay h = true) :
    Calls Tryd.prog 37 #[.agg #[.int .i64 h.1, .slice A n c], .int .i64 most, .int .i64 fr] w (GivesA w (addedT h most fr)) := by
  have hp := hubMay_parts hm
  have hnx := isNum_iff.1 hp.1
  have hl := hh.len
  unfold addedT
  by_cases h1 : (n : Int) < most
  · by_cases h2 : h.1 = 1073741823
    · rw [if_neg (fun k => k.2 h2)]
      exact added_full h A n c most fr w hh (.inr h2)
    · rw [if_pos ⟨by rw [hl]; exact h1, h2⟩]
      exact added_ok h A n c most fr w hh (by have := hp.2.1; omega) (hubMay_its1 hm) h1 hnx.1 (by have := hnx.2; omega)
  · rw [if_neg (fun k => h1 (by rw [← hl]; exact k.1))]
    exact added_full h A n c most fr w hh (.inl (by omega))
end Go.Proofs.YtmepbokoopgmiaaDoor
