/-
  Contract of the reference's Without of a hub. No condition beyond those each theorem names.
-/
import Derived.Test.YtmepbokoopgmiaaDoorHubZe
namespace Go.Proofs.YtmepbokoopgmiaaDoor
open Go.RowKit
set_option linter.unusedSimpArgs false
set_option linter.unusedVariables false

section
variable {w0 w w' : World} {bad : Nat → Prop}
theorem Chg.thenBelow (h : Chg w0 w bad) (hb : Below w.heap.size w w') : Chg w0 w' bad :=
  ⟨hb.os.trans h.os, hb.tape.trans h.tape, hb.output.trans h.output, Nat.le_trans h.size hb.size, fun b hl hn => (hb.block b (Nat.lt_of_lt_of_le hl h.size)).trans (h.block b hl hn)⟩
theorem Chg.thenGrown {row : Option Nat} (h : Chg w0 w bad) (hg : w.grownBy w' row) (hr : ∀ g, row = some g → w0.heap.size ≤ g ∨ bad g) : Chg w0 w' bad :=
  ⟨hg.os.trans h.os, hg.tape.trans h.tape, hg.output.trans h.output, Nat.le_trans h.size hg.size, fun b hl hn => (hg.block b (Nat.lt_of_lt_of_le hl h.size) (fun e => by rcases hr b e.symm with k | k; omega; exact hn k)).trans (h.block b hl hn)⟩
end
theorem SubOwn.other {w : World} {lo : Nat} {g g' : Option Nat} {r : RS} (h : SubOwn w lo g r) (hg : ∀ b, g' = some b → w.heap.size ≤ b) : SubOwn w lo g' r := by
  refine ⟨h.1, h.2.1, fun hm b o e e2 => ?_⟩
  obtain ⟨b', o', e', _, hlt, _⟩ := h.2.1.1.lt (by omega)
  rw [e] at e'
  cases e'
  have := hg b e2.symm
  omega
theorem erase_skip {α : Type} {l : List α} {j : Nat} {x : α} (h : l[j]? = some x) : (l.take (j + 1)).eraseIdx j = (l.take j).eraseIdx j := by
  obtain ⟨hl, _⟩ := List.getElem?_eq_some_iff.1 h
  have hlen : (l.take j).length = j := by rw [List.length_take]; omega
  rw [take_next h, List.eraseIdx_append_of_length_le (by omega), hlen, Nat.sub_self, List.eraseIdx_of_length_le (l := l.take j) (by omega)]
  simp
theorem erase_next {α : Type} {l : List α} {j k : Nat} {x : α} (h : l[j]? = some x) (hk : j ≠ k) : (l.take (j + 1)).eraseIdx k = (l.take j).eraseIdx k ++ [x] := by
  obtain ⟨hl, _⟩ := List.getElem?_eq_some_iff.1 h
  have hlen : (l.take j).length = j := by rw [List.length_take]; omega
  rw [take_next h]
  by_cases hlt : k < j
  · rw [List.eraseIdx_append_of_lt_length (by omega)]
  · rw [List.eraseIdx_of_length_le (by simp; omega), List.eraseIdx_of_length_le (by omega)]
theorem step_bsl1 {P : Program} {ops : Array Oper} {o : Oper} {a : Act} {w : World} {K : Act → World → Prop} {Q : Exit → Act → World → Prop} {E : Prop} (hgd : o.guard = none) (t e : TypeId) (len i : Nat) (y : Operand) (ho : o.op = .buildSlice t len #[(i, y)]) (v : Value) (hv : a.eval y = v) (cells : Array Value)
    (hx : (Instr.buildSlice t len #[(i, v)]).run P w = .ok (.slice (some ⟨w.heap.size, 0, none⟩) len len) (w.alloc (.cells cells e)))
    (h : ∀ w', Blk w' w.heap.size e cells → Below w.heap.size w w' → w'.heap.size = w.heap.size + 1 → K (a.put o.dst (.slice (some ⟨w.heap.size, 0, none⟩) len len)) w') :
    if Region.wanted o (yielded ops a.tmps) = true then Oper.wp P o a w K Q else E := by
  have hw : Region.wanted o (yielded ops a.tmps) = true := by simp [Region.wanted, hgd]
  rw [if_pos hw]
  unfold Oper.wp execOp
  simp only [ho, List.map_toArray, List.map_cons, List.map_nil, hv, Sem.run_bind, hx, Result.andThen_ok]
  exact h _ (Blk.new w e cells) (below_alloc1 w _) (by simp)
theorem Own.rangeS {w : World} {lo g n d k : Nat} {rs : List RS} {r : RS} (h : Own w lo 53 4 (some ⟨g, 0, none⟩) n d (rssL rs)) (hk : rs[k]? = some r) : w.rangeAt g (k * 4) (rsL r) := by
  intro j v hv
  have hl := h.len
  rw [rssL_len] at hl
  have hkl : k < rs.length := (List.getElem?_eq_some_iff.1 hk).1
  have hj : j < 4 := (List.getElem?_eq_some_iff.1 hv).1
  obtain ⟨u, h1, h2, _⟩ := h.at_ (k := k * 4 + j) (by omega)
  rw [rssL_at rs k r hk j hj, hv] at h1
  cases h1
  exact h2

set_option maxRecDepth 100000 in
set_option maxHeartbeats 8000000 in
theorem without_any (h : Hub) (A : Option Addr) (n c k : Nat) (w : World) (hh : HubIn w h A n) (hn : n ≤ 1000) (hs : ∀ s ∈ h.2, s.2.2.1.length ≤ 1000) :
    Calls Tryd.prog 39 #[.agg #[.int .i64 h.1, .slice A n c], .int .i64 k] w (GivesH w (h.1, h.2.eraseIdx k)) := by
  have hT := hid (fun W (q : HubIn W h A n) => twin24_any h A n c W q hn hs)
  unfold GivesH at hT
  have HH := hid hh
  have hl := hid hh.len
  obtain ⟨i0, hi0, hz0, hz1', hz2'⟩ := info_parts sub_info
  clear hh hs
  obtain ⟨nx, ss⟩ := h
  try dsimp only at *
  have hTB := hid (hub_built1 nx)
  go_enter Tryd.func39, Tryd.ntmps39
  go_upto_region 3 with (first
    | (refine wpList_bx rfl 24 _ rfl #[.int .i64 nx, .slice A n c] rfl ?_; intro w1 hB1 hb1 hy; have hz1 := hid hy; clear hy)
    | ((with_reducible refine at_alloc (d := some 4) 24 ?_); refine wpList_al rfl 24 rfl _ (hub_zero _) ?_; intro w2 hB2 hb2 hy; have hz2 := hid hy; clear hy; have Y1 := hid (hB1.belowS hb2); obtain ⟨a0, a1, a2, a3⟩ := two_facts Y1.out)
    | ((with_reducible refine at_build 24 ?_); refine wpList_b1 rfl 24 0 _ rfl (.int .i64 nx) rfl _ (hTB.out _) ?_)
    | ((with_reducible refine at_alloc (d := some 5) 24 ?_); refine wpList_al rfl 24 rfl _ (hub_zero _) ?_; intro w3 hB3 hb3 hy; have hz3 := hid hy; clear hy)
    | ((with_reducible refine at_store (x := .tmp 5) 24 ?_); refine wpList_str rfl 24 _ _ rfl w2.heap.size _ rfl rfl _ _ hB3 rfl (hub_size _ _) (one_hub _ _ _ _) ?_; intro w4 hB4 hg4 hy; clear hy; have hq4 : Below w2.heap.size w2 w4 := hb3.grown hg4 hb3.size (by intro k e; cases e; exact Nat.le_refl _); clear a0 a1 a2 a3; have X1 := hid (Y1.out.belowS hq4); have X0 := hid (below_chain (below_chain hb1 hb2) hq4); obtain ⟨a0, a1, a2, a3⟩ := two_facts X1.out)
    | ((with_reducible refine (hT.out _ (HH.out.below X0.out)).mono ?_); rintro e w5 ⟨X, m, dx, rx, rfl, hsub, hX, hb5⟩)
    | ((with_reducible refine at_alloc (d := some 6) 24 ?_); refine wpList_al rfl 24 rfl _ (hub_zero _) ?_; intro w6 hB6 hb6 hy; clear hy)
    | ((with_reducible refine at_store (x := .tmp 6) 24 ?_); refine wpList_str rfl 24 _ _ rfl w5.heap.size _ rfl rfl _ _ hB6 rfl (hub_size _ _) (one_hub _ _ _ _) ?_; intro w7 hB7 hg7 hy; clear hy))
  have hq7 : Below w5.heap.size w5 w7 := hb6.grown hg7 hb6.size (by intro k e; cases e; exact Nat.le_refl _)
  have hq := below_chain hb5 hq7
  have Z2 := hid ((hB2.belowS hq4).belowS hq)
  have Z5 := hid (hB4.belowS hq)
  have Z6 := hid hB7
  have ZX := hid (hX.below hq7)
  have Z0 := hid (below_chain X0.out hq)
  have l1 := hid (show w.heap.size < w1.heap.size by have := hz1.out; omega)
  have l2 := hid (show w1.heap.size < w2.heap.size by have := hz2.out; omega)
  have l3 := hid hB4.lt
  have l4 := hid hb5.size
  have l5 := hid hB7.lt
  have HS := hid hsub
  have hxl := hid hX.len
  have hm1 : m ≤ 1000 := by have h1 := hX.len; have h2 := congrArg List.length hsub; simp only [subs, List.length_map] at h2; have := hl.out; omega
  clear hB1 hb1 hB2 hb2 hB3 hb3 hB4 hg4 hq4 hX hb5 hB6 hb6 hB7 hg7 hq7 hq a0 a1 a2 a3 Y1 X1 X0 hsub hz1 hz2 hz3
  generalize w1.heap.size = g2 at *
  generalize w2.heap.size = g5 at *
  generalize w5.heap.size = g6 at *
  generalize w4.heap.size = lo at *
  go_wp2_with fail
  go_loopw [7] (fun i wx => ∃ (j : Nat) (D : Option Addr) (m' d : Nat), j ≤ m ∧ i = .int .i64 j ∧ HOwn wx lo D m' d ((rx.take j).eraseIdx k) ∧ (∀ g, rowOf D d = some g → w7.heap.size ≤ g) ∧ Blk wx g2 24 #[.int .i64 0, .slice none 0 0] ∧ Blk wx g5 24 #[.int .i64 nx, .slice D m' d] ∧ Chg w7 wx (fun b => b = g5)) (fun i _ => m - (intOf i).toNat)
  case atStart => exact ⟨0, none, 0, 0, Nat.zero_le _, rfl, by simpa using HOwn.nil _ _ _, fun g e => by simp [rowOf] at e, Z2.out, Z5.out, Chg.refl _ _⟩
  case round =>
    obtain ⟨j, D, m', d, hj, rfl, hO, hrow, hB2, hB5, hC⟩ := hrel
    have HO := hid hO
    have HRow := hid hrow
    have HB2 := hid hB2
    have HB5 := hid hB5
    have HC := hid hC
    have HB6 := hid (hC.blk Z6.out (by have := l3.out; have := l4.out; omega))
    clear hO hrow hB2 hB5 hC
    obtain ⟨a0, a1, a2, a3⟩ := two_facts HB6.out
    obtain ⟨b0, b1, b2, b3⟩ := two_facts HB5.out
    have htz : (0 : Int) ≤ (j : Int) := by omega
    by_cases hlt : j < m
    · have hti : (j : Int) < (m : Int) := by omega
      have hx : rx[j]? = some (rx[j]'(by have := hxl.out; omega)) := List.getElem?_eq_getElem _
      generalize rx[j]'(by have := hxl.out; omega) = r at hx
      have HX := hid hx
      by_cases hjk : j = k
      · subst hjk
        have t1 : ((j : Int) == (j : Int)) = true := by simp
        have t2 : ((j : Int) != (j : Int)) = false := by simp
        go_wp2_with fail
        refine ⟨⟨j + 1, D, m', d, by omega, by go_num, ?_, HRow.out, HB2.out, HB5.out, HC.out⟩, by simp [intOf]; omega⟩
        rw [erase_skip HX.out]
        exact HO.out
      · have t1 : ¬ (j : Int) = (k : Int) := by omega
        have t2 : ((j : Int) == (k : Int)) = false := by simpa using t1
        have t3 : ((j : Int) != (k : Int)) = true := by simpa using t1
        obtain ⟨gx, hXe, hxrow, hxlo, hxl7⟩ := ZX.out.1.base (by omega)
        have HXr := hid (ZX.out.chg HC.out (fun b hb e => by have e2 : b = g5 := e; have := l3.out; omega))
        have hSr := hid ((HXr.out.2 r (List.mem_of_getElem? hx)))
        have hSw := hid (((ZX.out.2 r (List.mem_of_getElem? hx)).other (g' := rowOf D d) HRow.out).chg HC.out (fun b hb e => by have e2 : b = g5 := e; have := l3.out; omega))
        have hszr := rs_size r
        have hu53 := Tryd.underlying53
        subst hXe
        have rxr := HXr.out.1.rangeS hx
        have hrl : Hid (m' ≤ 1000) := hid (by have := HO.out.len; rw [List.length_eraseIdx, List.length_take] at this; split at this <;> omega)
        have n1 : gx < w7.heap.size := hxl7
        have n2 : gx ≠ g5 := by have := l3.out; omega
        clear hx t1
        obtain ⟨⟨id, fr, its, lost⟩, F, mf, cf⟩ := r
        go_wp2_with fail
        have HB5 := hid HB5.out.drew
        have HB6 := hid HB6.out.drew
        have HO := hid (HO.out.below (below_self_drew wr))
        have rxd : wr.drew.rangeAt gx (j * 4) (rsL ((id, fr, its, lost), F, mf, cf)) := rxr
        have HC := hid (HC.out.thenBelow (below_self_drew wr))
        have HB2 := hid HB2.out.drew
        have hSw := hid (hSw.out.below (below_self_drew wr))
        have HXd := hid (HXr.out.below (below_self_drew wr))
        have hdw : wr.drew.heap.size = wr.heap.size := rfl
        clear rxr HXr hSr a0 a1 a2 a3 b0 b1 b2 b3
        obtain ⟨a0, a1, a2, a3⟩ := two_facts HB6.out
        obtain ⟨b0, b1, b2, b3⟩ := two_facts HB5.out
        refine wp_region_F_drew 10 (S := (fun w' => w'.cell? ⟨g5, 1, none⟩ = some (.slice D m' d) ∧ w'.cell? ⟨g6, 1, none⟩ = some (.slice (some ⟨gx, 0, none⟩) m dx) ∧ w'.rangeAt gx (j * 4) (rsL ((id, fr, its, lost), F, mf, cf)))) (by kernel_rfl) ⟨b1, a1, rxd⟩ (fun hHeld => ?_)
        refine regF_take (v := ?_) 0 (by kernel_rfl) (by rfl) rfl (by kernel_rfl) (by kernel_rfl) (by kernel_rfl) (fun _ _ _ h => h) (Or.inl ⟨by rfl, ?_⟩) (by assumption) ?_; rotate_left; (intro w hSw; (try dsimp only at hSw); go_simp); (try with_reducible rfl); (try simp only [Act.put, List.setIfInBounds_toArray, List.set_cons_zero, List.set_cons_succ])
        refine regF_take (v := ?_) 1 (by kernel_rfl) (by rfl) rfl (by kernel_rfl) (by kernel_rfl) (by kernel_rfl) (fun _ _ _ h => h) (Or.inl ⟨by rfl, ?_⟩) (by assumption) ?_; rotate_left; (intro w hSw; (try dsimp only at hSw); go_simp); (try with_reducible rfl); (try simp only [Act.put, List.setIfInBounds_toArray, List.set_cons_zero, List.set_cons_succ])
        refine regF_take (v := ?_) 2 (by kernel_rfl) (by rfl) rfl (by kernel_rfl) (by kernel_rfl) (by kernel_rfl) (fun _ _ _ h => h) (Or.inl ⟨by rfl, ?_⟩) (by assumption) ?_; rotate_left; (intro w hSw; (try dsimp only at hSw); go_simp); (try with_reducible rfl); (try simp only [Act.put, List.setIfInBounds_toArray, List.set_cons_zero, List.set_cons_succ])
        refine regF_take (v := ?_) 3 (by kernel_rfl) (by rfl) rfl (by kernel_rfl) (by kernel_rfl) (by kernel_rfl) (fun _ _ _ h => h) (Or.inl ⟨by rfl, ?_⟩) (by assumption) ?_; rotate_left; (intro w hSw; (try dsimp only at hSw); go_simp); (try with_reducible rfl); (try simp only [Act.put, List.setIfInBounds_toArray, List.set_cons_zero, List.set_cons_succ])
        refine regF_take (v := ?_) 4 (by kernel_rfl) (by rfl) rfl (by kernel_rfl) (by kernel_rfl) (by kernel_rfl) (fun _ _ _ h => h) (Or.inl ⟨by rfl, ?_⟩) (by assumption) ?_; rotate_left; (intro w hSw; (try dsimp only at hSw); go_simp); (try with_reducible rfl); (try simp only [Act.put, List.setIfInBounds_toArray, List.set_cons_zero, List.set_cons_succ])
        refine regF_take (v := ?_) 5 (by kernel_rfl) (by rfl) rfl (by kernel_rfl) (by kernel_rfl) (by kernel_rfl) (fun _ _ _ h => h) (Or.inl ⟨by rfl, ?_⟩) (by assumption) ?_; rotate_left; (intro w hSw; (try dsimp only at hSw); go_simp); (try with_reducible rfl); (try simp only [Act.put, List.setIfInBounds_toArray, List.set_cons_zero, List.set_cons_succ])
        refine regF_take 6 (by kernel_rfl) (by rfl) rfl (by kernel_rfl) (by kernel_rfl) (by kernel_rfl) (fun _ _ _ h => h) (yieldsIf_load_mid (by rfl) _ _ rfl _ _ rfl _ _ (by intro w hSw; (try dsimp only at hSw); go_split_ands; assumption) (by assumption) (by rfl) (by assumption)) (by assumption) ?_; (try simp only [Act.put, List.setIfInBounds_toArray, List.set_cons_zero, List.set_cons_succ])
        refine regF_only 7 rfl (by kernel_rfl) (fun K hK => ?_); refine step_bsl1 rfl 22 53 1 0 _ rfl _ rfl _ (sub_bsliceV id fr F mf cf lost _) ?_; intro v8 hB8 hb8 hy; clear hy; have Y5 := hid (HB5.out.belowS hb8); have Y6 := hid (HB6.out.belowS hb8); have YX := hid (HXd.out.below hb8); have YO := hid (HO.out.below hb8); have YC := hid (HC.out.thenBelow hb8); have Y2 := hid (HB2.out.belowS hb8); have YS := hid (hSw.out.below hb8); obtain ⟨_, c1, _, _⟩ := two_facts Y5.out; obtain ⟨_, d1, _, _⟩ := two_facts Y6.out; have rx8 := YX.out.1.rangeS HX.out; have hO8 := YO.out.1; have hlo8 : lo ≤ v8.heap.size := (by have := hb8.size; have := HC.out.size; have := l5.out; have := l4.out; omega); refine hK.out _ _ ?_ (fun hHeld => ?_); (exact ⟨c1, d1, rx8⟩); clear hK K; (try simp only [Act.put, List.setIfInBounds_toArray, List.set_cons_zero, List.set_cons_succ])
        refine regF_only 8 rfl (by kernel_rfl) (fun K hK => ?_); refine step_app rfl _ _ _ rfl lo 53 i0 _ 4 48 Tryd.underlying22 hi0 hz0 hz1' hz2' zeroS_cells (by omega) D m' d _ rfl hO8 _ 1 1 0 [.int .i64 id, .int .i64 fr, .slice F mf cf, .bool lost] rfl ((hB8.rd (n := 1) (sz := 4) rfl).low (Nat.zero_le _)) (rsL_one ((id, fr, its, lost), F, mf, cf)) (by have := hrl.out; simp only [maxLen]; omega) (by have := hrl.out; omega) hlo8 ?_; intro D' d' v9 hO9 hg9 hat; have W5 := hid (Y5.out.grown hg9 (fun e => by have := HRow.out _ e.symm; have := l3.out; have := l4.out; have := l5.out; omega)); have W6 := hid (Y6.out.grown hg9 (fun e => by have := HRow.out _ e.symm; have := l5.out; omega)); have W2 := hid (Y2.out.grown hg9 (fun e => by have := HRow.out _ e.symm; have := l2.out; have := l3.out; have := l4.out; have := l5.out; omega)); have WC := hid (YC.out.thenGrown hg9 (fun g e => .inl (HRow.out _ e))); have WX := hid ((ZX.out.chg WC.out (fun b hb e => by have e2 : b = g5 := e; have := l3.out; omega)).1.rangeS HX.out); obtain ⟨_, c1, _, c3⟩ := two_facts W5.out; obtain ⟨_, d1, _, _⟩ := two_facts W6.out; have rx9 := WX.out; refine hK.out _ _ ?_ (fun hHeld => ?_); (exact ⟨c1, d1, rx9⟩); clear hK K; (try simp only [Act.put, List.setIfInBounds_toArray, List.set_cons_zero, List.set_cons_succ])
        refine regF_takeT (v := ?_) 9 (by decide) rfl (by kernel_rfl) (by kernel_rfl) (by kernel_rfl) (fun _ _ _ h => h) (Or.inl ⟨by rfl, ?_⟩) (by assumption) ?_; rotate_left; (intro w hSw; clear hSw; go_simp); (try with_reducible rfl); (try simp only [Act.put, List.setIfInBounds_toArray, List.set_cons_zero, List.set_cons_succ])
        refine regF_last 10 rfl rfl (by kernel_rfl) (fun K hK => ?_); go_simp; skip; refine hK.out _ _ (fun _ => ?_); clear hK K; (try simp only [Act.put, List.setIfInBounds_toArray, List.set_cons_zero, List.set_cons_succ])
        refine wpAnyF_done (by kernel_rfl) ?_ _
        have hH := HOwn.pushR YO.out ((id, fr, its, lost), F, mf, cf) YS.out hO9 hg9 hat
        have hC10 : Chg v9 (v9.setCell ⟨g5, 1, none⟩ (.slice D' (m' + 1) d')) (fun b => b = g5) := (Chg.refl v9 _).setCell (g := g5) (i := 1) _ (.inl rfl)
        have V1 := hid (hH.chg hC10 (fun b hb e => by have e2 : b = g5 := e; have := l3.out; omega))
        have V2 := hid (hC10.blk W2.out (by have := l2.out; omega))
        have V5 := hid (W5.out.set_ 1 (.slice D' (m' + 1) d'))
        have VC := hid (WC.out.trans hC10 (fun b e => e) (fun b _ e => e))
        have VR : Hid (∀ g, rowOf D' d' = some g → w7.heap.size ≤ g) := hid fun g e => by
          rcases hat with q | q | q
          · exact HRow.out g (q.symm.trans e)
          · rw [q] at e; cases e
          · rw [q] at e; have := Option.some.inj e; have := YC.out.size; omega
        clear hH hC10
        generalize v9.setCell ⟨g5, 1, none⟩ (.slice D' (m' + 1) d') = v10 at *
        go_wp2_with fail
        refine ⟨⟨j + 1, D', m' + 1, d', by omega, by go_num, ?_, VR.out, V2.out, V5.out, VC.out⟩, by simp [intOf]; omega⟩
        rw [erase_next HX.out hjk]
        exact V1.out
    · obtain rfl : j = m := by omega
      have hti : ¬ (j : Int) < (j : Int) := by omega
      obtain ⟨c0, c1, c2, c3⟩ := two_facts HB2.out
      have n1 : g2 ≠ g5 := by have := l2.out; omega
      have n2 : g2 ≠ g6 := by have := l2.out; have := l3.out; have := l4.out; omega
      go_wp2
      have B := HB2.out.both (c := .int .i64 nx) (d := .slice D m' d)
      have hC2 := chg_both wr g2 (.int .i64 nx) (.slice D m' d)
      have hHf := (HO.out.chg hC2 (fun b hb e => by have e2 : b = g2 := e; have := l2.out; have := l3.out; omega)).low (lo' := w.heap.size) (by have := l1.out; have := l2.out; have := l3.out; omega)
      have hbf := below_of_chg (below_of_chg Z0.out HC.out (fun b e => by have e2 : b = g5 := e; have := l1.out; have := l2.out; omega)) hC2 (fun b e => by have e2 : b = g2 := e; have := l1.out; omega)
      generalize (wr.setCell ⟨g2, 0, none⟩ (.int .i64 nx)).setCell ⟨g2, 1, none⟩ (.slice D m' d) = wf at *
      obtain ⟨e0, e1, _, _⟩ := two_facts B
      refine bodyPost_ret (v := .agg #[.int .i64 nx, .slice D m' d]) (by simp [results, Tryd.f39, go_sem, e0, e1]) rfl ?_
      refine ⟨D, m', d, _, rfl, ?_, hHf, hbf⟩
      rw [List.take_of_length_le (by have := hxl.out; omega), subs_erase, HS.out]
end Go.Proofs.YtmepbokoopgmiaaDoor
