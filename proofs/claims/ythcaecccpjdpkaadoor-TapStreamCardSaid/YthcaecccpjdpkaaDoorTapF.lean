/-
  Contracts of the law's event, pushed, polls, alive. No condition beyond those each theorem names.
-/
import Derived.Test.YthcaecccpjdpkaaDoorTapE
namespace Go.Proofs.YthcaecccpjdpkaaDoor
open Go.RowKit
set_option linter.unusedSimpArgs false
set_option linter.unusedVariables false

/-- The event of a number. -/
def evN (n : Int) : Ev := (n, false, zeroHd)
theorem evN_ok (n : Int) : HdOk (evN n).2.2 := zeroHd_ok
theorem zeroE_run (w : World) : (zeroValue 30).run Tryd.prog w = .ok (.agg (evL zeroEv).toArray) w := by kernel_rfl
theorem evN_built (n : Int) (w : World) : (Instr.build 30 #[(0, .int .i64 n)]).run Tryd.prog w = .ok (.agg (evL (evN n)).toArray) w := run_build w _ _ _ (by kernel_rfl)
theorem ev_one (e : Ev) : ∀ v ∈ (evL e).toArray, v.oneCell' = true := fun v hv => itL_one (false, e) v (by simp [itL]; right; simpa using hv)
section
variable {P : Program}
/-- Results: a variable's row. -/
theorem results_c {fn : Func} {p : Tmp} {ty : TypeId} (h : fn.results = #[.cell p ty]) (tmps : Array Value) (w : World) (g : Nat) (cs : Array Value) (d1 : TypeDesc)
    (hp : tmps.getD p undef = .pointer (some ⟨g, 0, none⟩)) (hg : Blk w g ty cs) (hu : P.underlying ty = some d1) (h1 : (match d1 with | .struct _ | .array _ _ => true | _ => false) = true) (hi : (P.info? ty).map (·.size) = some cs.size) :
    (results fn tmps).run P w = .ok (.agg cs) w := by
  have e1 : tmps[p]?.getD undef = .pointer (some ⟨g, 0, none⟩) := by simpa using hp
  simp [results, h, e1, asAddr, run_loadVar_row w g ty ty cs (0, 0) d1 hg hu h1 hi]
end
set_option maxRecDepth 100000 in
set_option maxHeartbeats 1000000 in
theorem evn_any (n : Int) (w : World) :
    Calls Tryd.prog 8 #[.int .i64 n] w fun e w' => e = .returned (.agg (evL (evN n)).toArray) ∧ Below w.heap.size w w' := by
  have hsz := ev_sizeA zeroEv zeroHd_ok
  have hszN := ev_sizeA (evN n) zeroHd_ok
  have hb := hid (fun W => evN_built n W)
  have hz : Hid (∀ W, (zeroValue 30).run Tryd.prog W = .ok (.agg (evL zeroEv).toArray) W) := hid zeroE_run
  have hNZ : (evL (evN n)).toArray.size = (evL zeroEv).toArray.size := (evL_len (evN n) zeroHd_ok).trans (evL_len zeroEv zeroHd_ok).symm
  have hone := hid (ev_one (evN n))
  generalize (evL zeroEv).toArray = Z at *
  generalize (evL (evN n)).toArray = X at *
  go_enter Tryd.func8, Tryd.ntmps8
  go_wp2_with (first
    | ((with_reducible refine at_alloc 30 ?_); refine wpList_al rfl 30 rfl _ (hz.out _) ?_; intro w1 hB1 hb1 hy; clear hy)
    | ((with_reducible refine at_build 30 ?_); refine wpList_b1 rfl 30 0 _ rfl (.int .i64 n) rfl X (hb.out _) ?_)
    | ((with_reducible refine at_store 30 ?_); refine wpList_str rfl 30 _ _ rfl w.heap.size X rfl rfl _ _ hB1 hNZ hsz hone.out ?_; intro w2 hB2 hg2 hy; clear hy))
  have hres := results_c (P := Tryd.prog) (fn := Tryd.f8) (p := 2) rfl
  refine bodyPost_ret (hres _ _ w.heap.size _ _ rfl hB2 Tryd.underlying30 rfl hszN) rfl ?_
  exact ⟨rfl, below_set hb1 hg2 (Nat.le_refl _)⟩

/-! ### What they keep -/
theorem evMay_N (n : Int) (h : 0 ≤ n) (k : n < 1073741824) : evMay (evN n) = true := by
  unfold evMay
  rw [decide_eq_true (show 0 ≤ (evN n).1 from h), decide_eq_true (show (evN n).1 < 1073741824 from k)]
  rfl
theorem itsOk_nil : ItsOk [] := fun x hx => by cases hx
theorem pollT_ok {xs : List It} (ho : ItsOk xs) (l : Bool) : ItsOk (pollT xs l).1 := by
  unfold pollT
  split
  · split
    · exact fun x hx => ho x (by simp [hx])
    · split <;> exact itsOk_nil
  · exact itsOk_nil
theorem pollT_itok {xs : List It} (ho : ItsOk xs) (l : Bool) : ItOk (pollT xs l).2.2.1 := by
  unfold pollT
  split
  · split
    · exact ho _ (by simp)
    · split
      · exact gapIt_ok
      · exact zeroIt_ok
  · exact zeroIt_ok
theorem pushT_ok {xs : List It} (ho : ItsOk xs) (l : Bool) (room : Int) (e : Ev) (he : HdOk e.2.2) : ItsOk (pushT xs l room e).1 := by
  have h2 : ItsOk (xs ++ [gapIt, (false, e)]) := fun x hx => by
    simp at hx
    rcases hx with h | rfl | rfl
    · exact ho x h
    · exact gapIt_ok
    · exact he
  have h1 : ItsOk (xs ++ [(false, e)]) := fun x hx => by
    simp at hx
    rcases hx with h | rfl
    · exact ho x h
    · exact he
  unfold pushT
  repeat' split
  all_goals first | exact ho | exact h1 | exact h2 | exact itsOk_nil
theorem pollT_len (xs : List It) (l : Bool) : (pollT xs l).1.length ≤ 64 := by
  unfold pollT
  split
  · rename_i h
    have := itsMay_len h
    split
    · simp at this ⊢; omega
    · split <;> simp
  · simp
theorem pushT_len (xs : List It) (l : Bool) (room : Int) (e : Ev) : (pushT xs l room e).1.length ≤ 64 := by
  unfold pushT
  split
  · rename_i h
    simp only [Bool.and_eq_true] at h
    have := itsMay_len h.1
    split
    · repeat' split
      all_goals simp
      all_goals omega
    · simp
  · simp
/-- The tap of the first so many events, at room 2. -/
def pushedT : Nat → List It × Bool
  | 0 => ([], false)
  | k + 1 => let r := pushT (pushedT k).1 (pushedT k).2 2 (evN ((k + 1 : Nat) : Int)); (r.1, r.2.1)
theorem pushedT_ok : ∀ n, ItsOk (pushedT n).1
  | 0 => itsOk_nil
  | k + 1 => pushT_ok (pushedT_ok k) _ _ _ (evN_ok _)
theorem pushedT_len : ∀ n, (pushedT n).1.length ≤ 64
  | 0 => by simp [pushedT]
  | k + 1 => pushT_len _ _ _ _
/-- What a tap's function answers. -/
def GivesF (w : World) (r : List It × Bool) (e : Ending) (w' : World) : Prop :=
  ∃ D m c, e = .returned (.agg #[.slice D m c, .bool r.2]) ∧ Fr w' w.heap.size 101 D m (itsL r.1) ∧ Below w.heap.size w w'
set_option maxRecDepth 100000 in
set_option maxHeartbeats 4000000 in
theorem pushed_any (n : Nat) (hn : n ≤ 1000) (w : World) (hG : GOk w) :
    Calls Tryd.prog 6 #[.int .i64 n] w (GivesF w (pushedT n)) := by
  have HG0 := hid hG
  clear hG
  have hEv0 := hid evn_any
  go_enter Tryd.func6, Tryd.ntmps6
  go_upto_region 2 with ((with_reducible refine at_alloc 24 ?_); first
    | (refine wpList_al (w := w) rfl 24 rfl _ (tap_zero _) ?_; intro w1 hB1 hb1 hy; have hz1 := hid hy; clear hy)
    | (refine wpList_al rfl 24 rfl _ (tap_zero _) ?_; intro w2 hB2 hb2 hy; have hz2 := hid hy; clear hy))
  have X0 := hid (below_chain hb1 hb2)
  have X1 := hid (hB1.belowS hb2)
  have X2 := hid hB2
  have l1 := hB1.lt
  clear hB1 hb1 hz1 hB2 hb2 hz2
  generalize hg3 : w1.heap.size = g3 at *
  clear hg3
  go_wp2_with fail
  go_loopw [4] (fun i wx => ∃ k : Nat, k ≤ n ∧ i = .int .i64 ((k : Int) + 1) ∧ Below w.heap.size w wx ∧ Blk wx w.heap.size 24 #[.slice none 0 0, .bool false] ∧ ∃ D m c l, Blk wx g3 24 #[.slice D m c, .bool l] ∧ l = (pushedT k).2 ∧ Fr wx (w.heap.size + 1) 101 D m (itsL (pushedT k).1)) (fun i _ => n + 1 - (intOf i).toNat)
  case atStart => exact ⟨0, Nat.zero_le _, rfl, X0.out, X1.out, none, 0, 0, false, X2.out, rfl, Fr.nil _ _ _ _⟩
  case round =>
    obtain ⟨k, hk, rfl, hb, hT2, D, m, c, l, hT3, hl, hF⟩ := hrel
    clear X0 X1 X2
    have X0 := hid hb
    have X2 := hid hT2
    have X3 := hid hT3
    have HG := hid (HG0.out.below X0.out)
    have HL := hid hl
    have hlen := hid (rd_len (pushedT_ok k) hF.1)
    have hlk := pushedT_len k
    have HR := hid hF.rd0
    have HF := hid hF
    clear hb hT2 hT3 hl hF
    by_cases hlt : k < n
    · have hti : (k : Int) + 1 ≤ (n : Int) := by omega
      have hEv := hid (fun W => hEv0.out ((k : Int) + 1) W)
      have hPu := hid (fun W (h : Rd W 0 101 D m (itsL (pushedT k).1)) (h2 : GOk W) => push_any D m c l (pushedT k).1 (pushedT_ok k) 2 (evN ((k : Int) + 1)) (evN_ok _) W h (by have := hlen.out; omega) h2)
      have hX : (pushedT (k + 1)) = ((pushT (pushedT k).1 (pushedT k).2 2 (evN ((k : Int) + 1))).1, (pushT (pushedT k).1 (pushedT k).2 2 (evN ((k : Int) + 1))).2.1) := rfl
      rw [← HL.out] at hX
      have HX := hid hX
      clear hX
      obtain ⟨p0, p1, p2, p3⟩ := two_facts X3.out.drew
      generalize hpt : pushT (pushedT k).1 l 2 (evN ((k : Int) + 1)) = r at *
      clear hpt
      generalize (evL (evN ((k : Int) + 1))).toArray = E at *
      go_wp2_with fail
      refine wp_region_F_drew 7 (S := (fun w' => w'.cell? ⟨g3, 0, none⟩ = some (.slice D m c) ∧ w'.cell? ⟨g3, 1, none⟩ = some (.bool l))) (by kernel_rfl) ⟨p0, p1⟩ (fun hHeld => ?_)
      refine regF_take (v := ?_) 0 (by kernel_rfl) (by rfl) rfl (by kernel_rfl) (by kernel_rfl) (by kernel_rfl) (fun _ _ _ h => h) (Or.inl ⟨by rfl, ?_⟩) (by assumption) ?_; rotate_left; (intro w hSw; (try dsimp only at hSw); go_simp); (try with_reducible rfl); (try simp only [Act.put, List.setIfInBounds_toArray, List.set_cons_zero, List.set_cons_succ])
      refine regF_takeT (v := ?_) 1 (by decide) rfl (by kernel_rfl) (by kernel_rfl) (by kernel_rfl) (fun _ _ _ h => h) (Or.inl ⟨by rfl, ?_⟩) (by assumption) ?_; rotate_left; (intro w hSw; clear hSw; go_simp); (try with_reducible rfl); (try simp only [Act.put, List.setIfInBounds_toArray, List.set_cons_zero, List.set_cons_succ])
      refine regF_only 2 rfl (by kernel_rfl) (fun K hK => ?_); go_simp; refine (hEv.out _).mono ?_; rintro e w4 ⟨rfl, hb4⟩; obtain ⟨q0, q1, _, _⟩ := two_facts (X3.out.drew.belowS hb4); refine hK.out _ _ ?_ (fun hHeld => ?_); (exact ⟨q0, q1⟩); clear hK K; (try simp only [Act.put, List.setIfInBounds_toArray, List.set_cons_zero, List.set_cons_succ])
      refine regF_only 3 rfl (by kernel_rfl) (fun K hK => ?_); go_simp; refine (hPu.out _ ((HR.out.below (below_self_drew _)).below hb4) ((HG.out.below (below_self_drew _)).below hb4)).mono ?_; rintro e w5 ⟨D', m', c', rfl, hF5, hb5⟩; obtain ⟨r0, r1, _, _⟩ := two_facts ((X3.out.drew.belowS hb4).belowS hb5); refine hK.out _ _ ?_ (fun hHeld => ?_); (exact ⟨r0, r1⟩); clear hK K; (try simp only [Act.put, List.setIfInBounds_toArray, List.set_cons_zero, List.set_cons_succ])
      refine regF_takeT (v := ?_) 4 (by decide) rfl (by kernel_rfl) (by kernel_rfl) (by kernel_rfl) (fun _ _ _ h => h) (Or.inl ⟨by rfl, ?_⟩) (by assumption) ?_; rotate_left; (intro w hSw; clear hSw; go_simp); (try with_reducible rfl); (try simp only [Act.put, List.setIfInBounds_toArray, List.set_cons_zero, List.set_cons_succ])
      refine regF_takeT (v := ?_) 5 (by decide) rfl (by kernel_rfl) (by kernel_rfl) (by kernel_rfl) (fun _ _ _ h => h) (Or.inl ⟨by rfl, ?_⟩) (by assumption) ?_; rotate_left; (intro w hSw; clear hSw; go_simp); (try with_reducible rfl); (try simp only [Act.put, List.setIfInBounds_toArray, List.set_cons_zero, List.set_cons_succ])
      refine regF_takeT (v := ?_) 6 (by decide) rfl (by kernel_rfl) (by kernel_rfl) (by kernel_rfl) (fun _ _ _ h => h) (Or.inl ⟨by rfl, ?_⟩) (by assumption) ?_; rotate_left; (intro w hSw; clear hSw; go_simp); (try with_reducible rfl); (try simp only [Act.put, List.setIfInBounds_toArray, List.set_cons_zero, List.set_cons_succ])
      refine regF_last 7 rfl rfl (by kernel_rfl) (fun K hK => ?_); refine step_str rfl 24 _ _ rfl g3 _ rfl rfl _ _ ((X3.out.drew.belowS hb4).belowS hb5) rfl (tap_size _ _) (one_tap _ _ _ _) ?_; intro w6 hB6 hg6 hy; clear hy; refine hK.out _ _ (fun _ => ?_); clear hK K; (try simp only [Act.put, List.setIfInBounds_toArray, List.set_cons_zero, List.set_cons_succ])
      refine wpAnyF_done (by kernel_rfl) ?_ _
      have l3 := X3.out.lt
      have l4 := hb4.size
      have hdw : wr.drew.heap.size = wr.heap.size := rfl
      have Y0 := hid (below_set (below_chain (below_chain (below_drew1 X0.out) hb4) hb5) hg6 (by omega))
      have Y2 := hid (((X2.out.drew.belowS hb4).belowS hb5).grown hg6 (by simp; omega))
      have hFf := hid ((hF5.chg (by omega) (Chg.of_grown hg6) (fun b hb e => by have := Option.some.inj e; omega)).low (lo' := w.heap.size + 1) (by omega))
      have Y3 := hid hB6
      clear hB6 hg6 hb4 hb5 hF5 q0 q1 r0 r1 p0 p1 p2 p3 hHeld
      go_wp2_with fail
      refine ⟨⟨k + 1, by omega, by go_num, Y0.out, Y2.out, D', m', c', _, Y3.out, by rw [HX.out], by rw [HX.out]; exact hFf.out⟩, by simp [intOf]; omega⟩
    · obtain rfl : k = n := by omega
      have hti : ¬ (k : Int) + 1 ≤ (k : Int) := by omega
      obtain ⟨p0, p1, p2, p3⟩ := two_facts X3.out
      have l3 := X3.out.lt
      have hnz : w.heap.size ≠ g3 := by omega
      go_wp2_with ((with_reducible refine at_store 24 ?_); refine wpList_str rfl 24 _ _ rfl w.heap.size _ rfl rfl _ _ X2.out rfl (tap_size _ _) (one_tap _ _ _ _) ?_; intro w6 hB6 hg6 hy; clear hy)
      have hbf := below_set X0.out hg6 (Nat.le_refl _)
      have hFf := (HF.out.chg (by omega) (Chg.of_grown hg6) (fun b hb e => by have := Option.some.inj e; omega)).low (lo' := w.heap.size) (by omega)
      have hres := results_c (P := Tryd.prog) (fn := Tryd.f6) (p := 2) rfl
      refine bodyPost_ret (hres _ _ w.heap.size _ _ rfl hB6 Tryd.underlying24 rfl (tap_size _ _)) rfl ?_
      exact ⟨D, m, c, by rw [HL.out], hFf, hbf⟩

/-- Reads as xs, apart from block g. -/
def RdN (w : World) (g sz : Nat) (A : Option Addr) (n : Nat) (xs : List Value) : Prop := Rd w 0 sz A n xs ∧ (0 < n * sz → ∀ b o, A = some ⟨b, o, none⟩ → b ≠ g)
theorem RdN.of_lt {w : World} {g sz n : Nat} {A : Option Addr} {xs : List Value} (h : Rd w 0 sz A n xs) (hg : w.heap.size ≤ g) : RdN w g sz A n xs :=
  ⟨h, fun hn b o e => by
    obtain ⟨b', o', e', _, hlt, _⟩ := h.lt hn
    rw [e] at e'
    cases e'
    omega⟩
theorem RdN.of_fr {w : World} {g lo sz n : Nat} {A : Option Addr} {xs : List Value} (h : Rd w lo sz A n xs) (hg : g < lo) : RdN w g sz A n xs :=
  ⟨h.low (Nat.zero_le _), fun hn b o e => by
    obtain ⟨b', o', e', hlo, _⟩ := h.2 hn
    rw [e] at e'
    cases e'
    omega⟩
theorem RdN.below {w w' : World} {g sz n : Nat} {A : Option Addr} {xs : List Value} (h : RdN w g sz A n xs) (hb : Below w.heap.size w w') : RdN w' g sz A n xs := ⟨h.1.below hb, h.2⟩
theorem RdN.drew {w : World} {g sz n : Nat} {A : Option Addr} {xs : List Value} (h : RdN w g sz A n xs) (k : Nat) : RdN (w.drewN k) g sz A n xs := h
theorem RdN.grown {w w' : World} {g sz n : Nat} {A : Option Addr} {xs : List Value} (h : RdN w g sz A n xs) (hg : w.grownBy w' (some g)) : RdN w' g sz A n xs := by
  rcases Nat.eq_zero_or_pos (n * sz) with h0 | hn
  · exact ⟨⟨h.1.1, fun hp => by omega⟩, h.2⟩
  · obtain ⟨b, o, e, hlo, hlt, hx⟩ := h.1.lt hn
    exact ⟨h.1.keep (fun b' hb' ⟨o', e'⟩ => hg.block b' hb' (fun e2 => h.2 hn b' o' e' (Option.some.inj e2))), h.2⟩
theorem Rd.intAt {w : World} {lo n : Nat} {A : Option Addr} {vs : List Int} (h : Rd w lo 1 A n (vs.map (Value.int .i64))) {k : Nat} {v : Int} (hk : vs[k]? = some v) : ∃ b o, A = some ⟨b, o, none⟩ ∧ lo ≤ b ∧ w.cell? ⟨b, o + k, none⟩ = some (.int .i64 v) := by
  have hkn : k < vs.length := (List.getElem?_eq_some_iff.1 hk).1
  have h1 := h.1
  rw [List.length_map] at h1
  obtain ⟨b, o, e, hlo, hx⟩ := h.2 (by omega)
  exact ⟨b, o, e, hlo, by rw [hx k (by omega), List.getElem?_map, hk]; rfl⟩
/-- Are these told, and then nothing? -/
def pollsT : List It × Bool → List Int → Bool
  | t, [] => decide ((pollT t.1 t.2).2.2.2 = 6)
  | t, v :: vs => decide ((pollT t.1 t.2).2.2.2 = 0) && (decide ((pollT t.1 t.2).2.2.1.1 = decide (v < 0)) && (((pollT t.1 t.2).2.2.1.1 || decide ((pollT t.1 t.2).2.2.1.2.1 = v)) && pollsT ((pollT t.1 t.2).1, (pollT t.1 t.2).2.1) vs))

set_option maxRecDepth 100000 in
set_option maxHeartbeats 4000000 in
theorem polls_any (A : Option Addr) (m0 c0 : Nat) (l0 : Bool) (xs0 : List It) (ho : ItsOk xs0) (hm0 : m0 ≤ 1000) (W : Option Addr) (n cw : Nat) (vs : List Int) (w : World) (hr : Rd w 0 101 A m0 (itsL xs0)) (hv : Rd w 0 1 W n (vs.map (Value.int .i64))) (hn : n ≤ 1000) (hG : GOk w) :
    Calls Tryd.prog 10 #[.agg #[.slice A m0 c0, .bool l0], .slice W n cw] w fun e w' => e = .returned (.bool (pollsT (xs0, l0) vs)) ∧ Below w.heap.size w w' := by
  have hvl : vs.length = n := by have := hv.1; simpa using this
  have hXl := hid hvl
  have HG0 := hid hG
  have HV := hid hv
  have HR0 := hid (RdN.of_lt hr (Nat.le_refl _))
  have HO0 := hid ho
  have hlt0 : Hid (w.heap.size = w.heap.size) := hid rfl
  clear hr hv hG ho hvl
  go_enter Tryd.func10, Tryd.ntmps10
  go_wp2_with (refine wpList_bx rfl 24 _ rfl #[.slice A m0 c0, .bool l0] rfl ?_; intro w1 hB1 hb1 hy; have hz1 := hid hy; clear hy)
  have X0 := hid hb1
  have X2 := hid hB1
  have HR1 := hid (HR0.out.below hb1)
  clear hB1 hb1 hz1
  go_loopw [5] (fun i wx => ∃ k : Nat, k ≤ n ∧ i = .int .i64 k ∧ Below w.heap.size w wx ∧ ∃ D m c l xs, Blk wx w.heap.size 24 #[.slice D m c, .bool l] ∧ ItsOk xs ∧ m ≤ 1000 ∧ RdN wx w.heap.size 101 D m (itsL xs) ∧ pollsT (xs0, l0) vs = pollsT (xs, l) (vs.drop k)) (fun i _ => n - (intOf i).toNat)
  case atStart => exact ⟨0, Nat.zero_le _, rfl, X0.out, A, m0, c0, l0, xs0, X2.out, HO0.out, hm0, HR1.out, rfl⟩
  case round =>
    obtain ⟨k, hk, rfl, hb, D, m, c, l, xs, hT, hox, hm, hR, hP⟩ := hrel
    clear X0 X2 HR1
    have X0 := hid hb
    have X2 := hid hT
    have HR := hid hR
    have HRd := hid hR.1
    have HP := hid hP
    have HOX := hid hox
    have HG := hid (HG0.out.below hb)
    have HVk := hid (HV.out.below hb)
    clear hb hT hR hP hox
    have hPo := hid (fun W' (h : Rd W' 0 101 D m (itsL xs)) (h2 : GOk W') => poll_any D m c l xs HOX.out W' h hm h2)
    unfold GivesP at hPo
    obtain ⟨p0, p1, p2, p3⟩ := two_facts X2.out
    by_cases hlt : k < n
    · have hti : (k : Int) < (n : Int) := by omega
      have htz : (0 : Int) ≤ (k : Int) := by omega
      have hnz : (n : Int) ≤ 1000 := by omega
      have hvk : vs[k]? = some (vs[k]'(by have := hXl.out; omega)) := List.getElem?_eq_getElem _
      have hdr : vs.drop k = vs[k]'(by have := hXl.out; omega) :: vs.drop (k + 1) := List.drop_eq_getElem_cons _
      rw [hdr] at HP
      obtain ⟨bb, oo, rfl, _, cv⟩ := HVk.out.intAt hvk
      generalize vs[k]'(by have := hXl.out; omega) = v at *
      have ox := pollT_itok HOX.out l
      have oxs := hid (pollT_ok HOX.out l)
      have hlx := pollT_len xs l
      simp only [pollsT] at HP
      have hX0 : Hid ((itL (pollT xs l).2.2.1).toArray[0]? = some (.bool (pollT xs l).2.2.1.1)) := hid rfl
      have hX1 : Hid ((itL (pollT xs l).2.2.1).toArray[1]? = some (.int .i64 (pollT xs l).2.2.1.2.1)) := hid rfl
      have hsX := it_sizeA _ ox
      have hsZ := it_sizeA zeroIt zeroIt_ok
      have hXZ : (itL (pollT xs l).2.2.1).toArray.size = (itL zeroIt).toArray.size := by rw [List.size_toArray, List.size_toArray, itL_len _ ox, itL_len zeroIt zeroIt_ok]
      have hone := hid (it_one (pollT xs l).2.2.1)
      have hzr : Hid (∀ W, (zeroValue 32).run Tryd.prog W = .ok (.agg (itL zeroIt).toArray) W) := hid zeroI_run
      clear ox hdr hvk
      generalize pollT xs l = r at *
      obtain ⟨ys, l', x, er⟩ := r
      simp only at hPo HP oxs hlx hX0 hX1 hsX hXZ hone
      generalize (itL zeroIt).toArray = Z at *
      generalize (itL x).toArray = X at *
      generalize x.1 = xg at *
      generalize x.2.1 = xn at *
      go_upto_region 5 with (first
        | ((with_reducible refine (hPo.out _ HRd.out HG.out).mono ?_); rintro e w4 ⟨D', m', c', rfl, hF4, hb4⟩)
        | ((with_reducible refine at_alloc 24 ?_); refine wpList_al rfl 24 rfl _ (tap_zero _) ?_; intro w5 hB5 hb5 hy; have hz5 := hid hy; clear hy)
        | ((with_reducible refine at_alloc 32 ?_); refine wpList_al rfl 32 rfl _ (hzr.out _) ?_; intro w6 hB6 hb6 hy; have hz6 := hid hy; clear hy)
        | ((with_reducible refine at_store 24 ?_); refine wpList_str rfl 24 _ _ rfl w4.heap.size _ rfl rfl _ _ (hB5.belowS hb6) rfl (tap_size _ _) (one_tap _ _ _ _) ?_; intro w7 hB7 hg7 hy; have hz7 := hid hy; clear hy)
        | ((with_reducible refine at_store 32 ?_); refine wpList_str rfl 32 _ _ rfl w5.heap.size X rfl rfl _ _ (hB6.grown hg7 (by have := hB5.lt; simp; omega)) hXZ hsZ hone.out ?_; intro w8 hB8 hg8 hy; have hz8 := hid hy; clear hy))
      have l5 := hB5.lt
      have l6 := hb4.size
      have l7 := hb5.size
      have l8 := X2.out.lt
      have hb46 := below_chain hb5 hb6
      have hF7 := hF4.below hb46
      have hb47 : Below w4.heap.size w4 w7 := hb46.grown hg7 hb46.size (by intro k e; cases e; omega)
      have hb48 : Below w4.heap.size w4 w8 := hb47.grown hg8 hb47.size (by intro k e; cases e; omega)
      have Y0 := hid (below_chain (below_chain X0.out hb4) hb48)
      have Y2 := hid ((X2.out.belowS hb4).belowS hb48)
      have Y6 := hid (hB7.grown hg8 (by simp; omega))
      have Y7 := hid hB8
      have HF := hid (hF4.below hb48)
      have cv8 := (World.cell?_of_block (a := ⟨bb, oo + k, none⟩) ((below_chain hb4 hb48).block bb (World.block_lt_of_cell? _ _ cv))).trans cv
      have YV := hid cv8
      clear hF4 hb4 hB5 hb5 hz5 hB6 hb6 hz6 hB7 hg7 hz7 hB8 hg8 hz8 hb46 hF7 hb47 hb48 p0 p1 p2 p3 cv cv8
      have hm' : m' ≤ 1000 := by have := rd_len oxs.out HF.out.1; omega
      have hgl : w.heap.size < wr.heap.size := l8
      generalize w5.heap.size = g7 at *
      generalize w4.heap.size = g6 at *
      have d0 := Y7.out.cellv hX0.out
      have d1 := Y7.out.cellv hX1.out
      have dv := YV.out
      obtain ⟨t0, t1, t2, t3⟩ := two_facts Y6.out
      clear hPo HG HRd HR HV HVk X0 X2 hzr
      by_cases her : er = 0
      · subst her
        by_cases hvz : v < 0
        · cases xg
          · clear hX0 hX1 hXZ hsX hsZ hlx
            have HQ := hid (show pollsT (xs0, l0) vs = false by rw [HP.out]; first | (simp [hvz]; done) | (simp [hvz, hxv]; done) | (simp [her]; done))
            go_quiet (fail)
            go_wp2
            go_ret
            exact ⟨ret_b (by rw [HQ.out]), below_drew Y0.out _⟩
          · have HQ := hid (show pollsT (xs0, l0) vs = pollsT (ys, l') (vs.drop (k + 1)) by rw [HP.out]; simp [hvz])
            go_quiet (fail)
            have Y2 := hid (Y2.out.drewN nq)
            go_wp2_with ((with_reducible refine at_store 24 ?_); refine wpList_str rfl 24 _ _ rfl w.heap.size _ rfl rfl _ _ Y2.out rfl (tap_size _ _) (one_tap _ _ _ _) ?_; intro w9 hB9 hg9 hy; clear hy)
            have l8' := Y2.out.lt
            have hbF := below_set (below_drew Y0.out nq) hg9 (Nat.le_refl _)
            have hRF := (RdN.of_fr (show Rd (w8.drewN nq) wr.heap.size 101 D' m' (itsL ys) from HF.out.1) hgl).grown hg9
            exact ⟨⟨k + 1, by omega, by go_num, hbF, D', m', c', l', ys, hB9, oxs.out, hm', hRF, HQ.out⟩, by simp [intOf]; omega⟩
        · cases xg
          · by_cases hxv : xn = v
            · subst hxv
              have hq : (xn != xn) = false := by simp
              have HQ := hid (show pollsT (xs0, l0) vs = pollsT (ys, l') (vs.drop (k + 1)) by rw [HP.out]; simp [hvz])
              go_quiet (fail)
              have Y2 := hid (Y2.out.drewN nq)
              go_wp2_with ((with_reducible refine at_store 24 ?_); refine wpList_str rfl 24 _ _ rfl w.heap.size _ rfl rfl _ _ Y2.out rfl (tap_size _ _) (one_tap _ _ _ _) ?_; intro w9 hB9 hg9 hy; clear hy)
              have l8' := Y2.out.lt
              have hbF := below_set (below_drew Y0.out nq) hg9 (Nat.le_refl _)
              have hRF := (RdN.of_fr (show Rd (w8.drewN nq) wr.heap.size 101 D' m' (itsL ys) from HF.out.1) hgl).grown hg9
              exact ⟨⟨k + 1, by omega, by go_num, hbF, D', m', c', l', ys, hB9, oxs.out, hm', hRF, HQ.out⟩, by simp [intOf]; omega⟩
            · have hq : (xn != v) = true := by simpa [bne] using hxv
              clear hX0 hX1 hXZ hsX hsZ hlx
              have HQ := hid (show pollsT (xs0, l0) vs = false by rw [HP.out]; first | (simp [hvz]; done) | (simp [hvz, hxv]; done) | (simp [her]; done))
              go_quiet (fail)
              go_wp2
              go_ret
              exact ⟨ret_b (by rw [HQ.out]), below_drew Y0.out _⟩
          · clear hX0 hX1 hXZ hsX hsZ hlx
            have HQ := hid (show pollsT (xs0, l0) vs = false by rw [HP.out]; first | (simp [hvz]; done) | (simp [hvz, hxv]; done) | (simp [her]; done))
            go_quiet (fail)
            go_wp2
            go_ret
            exact ⟨ret_b (by rw [HQ.out]), below_drew Y0.out _⟩
      · have hq : (er != 0) = true := by simpa [bne] using her
        clear hX0 hX1 hXZ hsX hsZ hlx
        have HQ := hid (show pollsT (xs0, l0) vs = false by rw [HP.out]; first | (simp [hvz]; done) | (simp [hvz, hxv]; done) | (simp [her]; done))
        go_quiet (fail)
        go_wp2
        go_ret
        exact ⟨ret_b (by rw [HQ.out]), below_drew Y0.out _⟩
    · obtain rfl : k = n := by omega
      have hti : ¬ (k : Int) < (k : Int) := by omega
      have hd0 : vs.drop k = [] := List.drop_eq_nil_of_le (by have := hXl.out; omega)
      rw [hd0] at HP
      simp only [pollsT] at HP
      have ox := pollT_itok HOX.out l
      have hsZ := it_sizeA zeroIt zeroIt_ok
      have hXZ : (itL (pollT xs l).2.2.1).toArray.size = (itL zeroIt).toArray.size := by rw [List.size_toArray, List.size_toArray, itL_len _ ox, itL_len zeroIt zeroIt_ok]
      have hone := hid (it_one (pollT xs l).2.2.1)
      have hzr : Hid (∀ W, (zeroValue 32).run Tryd.prog W = .ok (.agg (itL zeroIt).toArray) W) := hid zeroI_run
      clear ox hd0
      generalize pollT xs l = r at *
      obtain ⟨ys, l', x, er⟩ := r
      simp only at hPo HP hXZ hone
      generalize (itL zeroIt).toArray = Z at *
      generalize (itL x).toArray = X at *
      go_wp2_with (first
        | ((with_reducible refine (hPo.out _ HRd.out HG.out).mono ?_); rintro e w4 ⟨D', m', c', rfl, hF4, hb4⟩)
        | ((with_reducible refine at_alloc 24 ?_); refine wpList_al rfl 24 rfl _ (tap_zero _) ?_; intro w5 hB5 hb5 hy; have hz5 := hid hy; clear hy)
        | ((with_reducible refine at_alloc 32 ?_); refine wpList_al rfl 32 rfl _ (hzr.out _) ?_; intro w6 hB6 hb6 hy; have hz6 := hid hy; clear hy)
        | ((with_reducible refine at_store 24 ?_); refine wpList_str rfl 24 _ _ rfl w4.heap.size _ rfl rfl _ _ (hB5.belowS hb6) rfl (tap_size _ _) (one_tap _ _ _ _) ?_; intro w7 hB7 hg7 hy; have hz7 := hid hy; clear hy)
        | ((with_reducible refine at_store 32 ?_); refine wpList_str rfl 32 _ _ rfl w5.heap.size X rfl rfl _ _ (hB6.grown hg7 (by have := hB5.lt; simp; omega)) hXZ hsZ hone.out ?_; intro w8 hB8 hg8 hy; have hz8 := hid hy; clear hy))
      have l5 := hB5.lt
      have l6 := hb4.size
      have l7 := hb5.size
      have hb46 := below_chain hb5 hb6
      have hb47 : Below w4.heap.size w4 w7 := hb46.grown hg7 hb46.size (by intro k e; cases e; omega)
      have hb48 : Below w4.heap.size w4 w8 := hb47.grown hg8 hb47.size (by intro k e; cases e; omega)
      have Y0 := below_chain (below_chain X0.out hb4) hb48
      go_ret
      exact ⟨ret_b (by rw [HP.out]; rfl), Y0⟩
end Go.Proofs.YthcaecccpjdpkaaDoor
