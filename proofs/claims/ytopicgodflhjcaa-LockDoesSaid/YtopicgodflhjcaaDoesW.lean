/-
  The walk of the law LockDoes: at any two locks and a number it returns true and writes nothing that was there.
-/
import Derived.Test.YtopicgodflhjcaaLockH
namespace Go.Proofs.Ytopicgodflhjcaa
open Go.RowKit Go.Shelf

set_option maxRecDepth 100000 in
set_option maxHeartbeats 1000000 in
theorem does_big (o p x : Int) (A B : Option Addr) (n m c d : Nat) (w : World) (h : 30 < n ∨ 30 < m) :
    Calls Try.prog 5 #[.agg #[.int .i64 o, .slice A n c], .agg #[.int .i64 p, .slice B m d], .int .i64 x] w fun e w' => e = .returned (.bool true) ∧ Below w.heap.size w w' := by
  have hbb := (below_alloc1 w (.cells #[.int .i64 o, .slice A n c] 24)).alloc (by simp) (.cells #[.int .i64 p, .slice B m d] 24)
  have HBB := hid hbb
  clear hbb
  by_cases h1 : 30 < n
  · have hn : (30 : Int) < (n : Int) := by omega
    clear h
    go_enter Try.func5, Try.ntmps5
    go_wp2
    go_ret
    exact ⟨rfl, HBB.out⟩
  · have hn : (n : Int) ≤ 30 := by omega
    have hm : (30 : Int) < (m : Int) := by omega
    clear h
    go_enter Try.func5, Try.ntmps5
    go_wp2
    go_ret
    exact ⟨rfl, HBB.out⟩

theorem below_of_chg {w0 w w' : World} {bad : Nat → Prop} (h : Below w0.heap.size w0 w) (hc : Chg w w' bad) (hb : ∀ b, bad b → w0.heap.size ≤ b) : Below w0.heap.size w0 w' := h.trans (hc.below h.size hb)
theorem Fr.lt {w : World} {lo n : Nat} {A : Option Addr} {xs : List Int} (h : Fr w lo A n xs) (b q : Nat) (e : A = some ⟨b, q, none⟩) (hn : 0 < n) : lo ≤ b ∧ b < w.heap.size := by
  obtain ⟨b', o', e', hlo, hlt, _⟩ := h.1.lt (by omega)
  rw [e] at e'
  cases e'
  exact ⟨hlo, hlt⟩

set_option maxRecDepth 100000 in
set_option maxHeartbeats 8000000 in
theorem does_small (o p x : Int) (A B : Option Addr) (n m c d : Nat) (ls os : List Int) (w : World) (hn : n ≤ 30) (hm : m ≤ 30) (hR : Rd w 0 1 A n (ls.map iv)) (hS : Rd w 0 1 B m (os.map iv)) :
    Calls Try.prog 5 #[.agg #[.int .i64 o, .slice A n c], .agg #[.int .i64 p, .slice B m d], .int .i64 x] w fun e w' => e = .returned (.bool true) ∧ Below w.heap.size w w' := by
  have hl : ls.length = n := by simpa using hR.1
  subst hl
  have hbb := (below_alloc1 w (.cells #[.int .i64 o, .slice A ls.length c] 24)).alloc (by simp) (.cells #[.int .i64 p, .slice B m d] 24)
  have B3 := (Blk.new w 24 #[.int .i64 o, .slice A ls.length c]).alloc (.cells #[.int .i64 p, .slice B m d] 24)
  have B4 := Blk.new (w.alloc (.cells #[.int .i64 o, .slice A ls.length c] 24)) 24 #[.int .i64 p, .slice B m d]
  simp only [World.size_alloc] at B4
  have H3 := hid B3
  have H4 := hid B4
  have HBB := hid hbb
  have HR := hid (hR.below hbb)
  have HS := hid (hS.below hbb)
  have hni : (ls.length : Int) ≤ 30 := by omega
  have hmi : (m : Int) ≤ 30 := by omega
  have HN := hid hn
  have HM := hid hm
  clear hR hS hbb B3 B4 hn hm
  go_enter Try.func5, Try.ntmps5
  go_wp2_with fail
  generalize (w.alloc (.cells #[.int .i64 o, .slice A ls.length c] 24)).alloc (.cells #[.int .i64 p, .slice B m d] 24) = w2 at *
  (with_reducible refine (refTwin_any o A ls.length c ls w2 (by have := HN.out; omega) HR.out).mono ?_); rintro e w3 ⟨D7, c7, rfl, hO7, hb3⟩
  go_wp2_with fail
  have hv := below_alloc1 w3 (.cells #[.int .i64 o, .slice D7 ls.length c7] 24)
  have X7 := hid (Blk.new w3 24 #[.int .i64 o, .slice D7 ls.length c7])
  have X3 := hid ((H3.out.belowS hb3).belowS hv)
  have X4 := hid ((H4.out.belowS hb3).belowS hv)
  have XL := hid ((HR.out.below hb3).below hv)
  have XO := hid ((HS.out.below hb3).below hv)
  have XW := hid ((hO7.rd.low (lo' := 0) (Nat.zero_le _)).below hv)
  have XB := hid (HBB.out.trans ((below_chain hb3 hv).mono HBB.out.size))
  clear H3 H4 HR HS HBB hO7 hb3 hv
  generalize hX : w3.alloc (.cells #[.int .i64 o, .slice D7 ls.length c7] 24) = wX at *
  generalize w3.heap.size = g7 at *
  clear hX
  obtain ⟨⟨ta, txs, th, te⟩, hT⟩ : ∃ T, takeL o ls x = T := ⟨_, rfl⟩
  obtain ⟨⟨fa, fxs, fh, fe⟩, hF⟩ : ∃ T, freeL o ls x = T := ⟨_, rfl⟩
  obtain ⟨⟨pa, pe⟩, hP⟩ : ∃ T, aheadL o ls x = T := ⟨_, rfl⟩
  have HT := hid hT
  have HF := hid hF
  have HP := hid hP
  clear hT hF hP
  have hTake := takeLock_any o x D7 ls.length c7 ls wX (by have := HN.out; omega) XW.out
  rw [HT.out] at hTake
  refine hTake.mono ?_
  rintro e w4 ⟨D8, n8, c8, rfl, hF8, hb4⟩
  clear hTake
  have F8 := hid hF8
  obtain ⟨a0, a1, a2, a3⟩ := two_facts (X3.out.belowS hb4)
  have g8 : Hid (∀ b q, D8 = some ⟨b, q, none⟩ → 0 < n8 → wX.heap.size ≤ b ∧ b < w4.heap.size) := hid fun b q e hn => hF8.lt b q e hn
  have hv := below_alloc1 w4 (.cells #[.int .i64 ta, .slice D8 n8 c8] 24)
  obtain ⟨a0, a1, a2, a3⟩ := two_facts ((X3.out.belowS hb4).belowS hv)
  go_wp2_with fail
  have X8 := hid (Blk.new w4 24 #[.int .i64 ta, .slice D8 n8 c8])
  have F8 := hid (hF8.below hv)
  have V1 := hid (below_chain hb4 hv)
  clear a0 a1 a2 a3 hv hF8 hb4
  generalize hX : w4.alloc (.cells #[.int .i64 ta, .slice D8 n8 c8] 24) = v1 at *
  have G8 : Hid (w4.heap.size < v1.heap.size) := hid (by rw [← hX]; simp)
  clear hX
  generalize w4.heap.size = n4 at *
  have Vv1 := hid V1.out
  clear V1
  have hcall := (HT.out ▸ refTake_any o x A ls.length c ls v1 (by have := HN.out; omega) (XL.out.below Vv1.out) : Calls _ _ _ _ (GivesT v1 (ta, txs, th, te)))
  refine hcall.mono ?_
  rintro e w5 ⟨D11, N5, K5, rfl, hFc, hbc⟩
  clear hcall
  have hv := below_alloc1 w5 (.cells #[.int .i64 ta, .slice D11 N5 K5] 24)
  have g11 : Hid (∀ b q, D11 = some ⟨b, q, none⟩ → 0 < N5 → v1.heap.size ≤ b ∧ b < w5.heap.size) := hid fun b q e hn => hFc.lt b q e hn
  obtain ⟨a0, a1, a2, a3⟩ := two_facts ((X7.out.below (below_chain Vv1.out (below_chain hbc hv)) X7.out.lt))
  obtain ⟨e0, e1, e2, e3⟩ := two_facts ((X7.out.below (below_chain Vv1.out hbc) X7.out.lt))
  go_wp2_with fail
  have X11 := hid (Blk.new w5 24 #[.int .i64 ta, .slice D11 N5 K5])
  have F11 := hid (hFc.below hv)
  have X8 := hid ((X8.out.belowS hbc).belowS hv)
  have F8 := hid ((F8.out.below hbc).below hv)
  have Vv2 := hid (below_chain Vv1.out (below_chain hbc hv))
  have Wv2 := hid (below_chain hbc hv)
  have Lv2 : Hid (v1.heap.size ≤ w5.heap.size) := hid hbc.size
  clear a0 a1 a2 a3 e0 e1 e2 e3 hv hFc hbc
  generalize hX : w5.alloc (.cells #[.int .i64 ta, .slice D11 N5 K5] 24) = v2 at *
  clear hX
  generalize w5.heap.size = y5 at *
  have hcall := (HF.out ▸ freeLock_any o x D7 ls.length c7 ls v2 (by have := HN.out; omega) (XW.out.below Vv2.out) : Calls _ _ _ _ (GivesF v2 (fa, fxs, fh, fe)))
  refine hcall.mono ?_
  rintro e w6 ⟨D14, N6, K6, rfl, hFc, hbc⟩
  clear hcall
  have hv := below_alloc1 w6 (.cells #[.int .i64 fa, .slice D14 N6 K6] 24)
  have g14 : Hid (∀ b q, D14 = some ⟨b, q, none⟩ → 0 < N6 → v2.heap.size ≤ b ∧ b < w6.heap.size) := hid fun b q e hn => hFc.lt b q e hn
  obtain ⟨a0, a1, a2, a3⟩ := two_facts ((X3.out.below (below_chain Vv2.out (below_chain hbc hv)) X3.out.lt))
  obtain ⟨e0, e1, e2, e3⟩ := two_facts ((X3.out.below (below_chain Vv2.out hbc) X3.out.lt))
  go_wp2_with fail
  have X14 := hid (Blk.new w6 24 #[.int .i64 fa, .slice D14 N6 K6])
  have F14 := hid (hFc.below hv)
  have X8 := hid ((X8.out.belowS hbc).belowS hv)
  have F8 := hid ((F8.out.below hbc).below hv)
  have X11 := hid ((X11.out.belowS hbc).belowS hv)
  have F11 := hid ((F11.out.below hbc).below hv)
  have Vv3 := hid (below_chain Vv2.out (below_chain hbc hv))
  have Wv3 := hid (below_chain hbc hv)
  have Lv3 : Hid (v2.heap.size ≤ w6.heap.size) := hid hbc.size
  clear a0 a1 a2 a3 e0 e1 e2 e3 hv hFc hbc
  generalize hX : w6.alloc (.cells #[.int .i64 fa, .slice D14 N6 K6] 24) = v3 at *
  clear hX
  generalize w6.heap.size = y6 at *
  have hcall := (HF.out ▸ refFree_any o x A ls.length c ls v3 (by have := HN.out; omega) (XL.out.below Vv3.out) : Calls _ _ _ _ (GivesF v3 (fa, fxs, fh, fe)))
  refine hcall.mono ?_
  rintro e w7 ⟨D17, N7, K7, rfl, hFc, hbc⟩
  clear hcall
  have hv := below_alloc1 w7 (.cells #[.int .i64 fa, .slice D17 N7 K7] 24)
  have g17 : Hid (∀ b q, D17 = some ⟨b, q, none⟩ → 0 < N7 → v3.heap.size ≤ b ∧ b < w7.heap.size) := hid fun b q e hn => hFc.lt b q e hn
  obtain ⟨a0, a1, a2, a3⟩ := two_facts ((X7.out.below (below_chain Vv3.out (below_chain hbc hv)) X7.out.lt))
  obtain ⟨e0, e1, e2, e3⟩ := two_facts ((X7.out.below (below_chain Vv3.out hbc) X7.out.lt))
  go_wp2_with fail
  have X17 := hid (Blk.new w7 24 #[.int .i64 fa, .slice D17 N7 K7])
  have F17 := hid (hFc.below hv)
  have X8 := hid ((X8.out.belowS hbc).belowS hv)
  have F8 := hid ((F8.out.below hbc).below hv)
  have X11 := hid ((X11.out.belowS hbc).belowS hv)
  have F11 := hid ((F11.out.below hbc).below hv)
  have X14 := hid ((X14.out.belowS hbc).belowS hv)
  have F14 := hid ((F14.out.below hbc).below hv)
  have Vv4 := hid (below_chain Vv3.out (below_chain hbc hv))
  have Wv4 := hid (below_chain hbc hv)
  have Lv4 : Hid (v3.heap.size ≤ w7.heap.size) := hid hbc.size
  clear a0 a1 a2 a3 e0 e1 e2 e3 hv hFc hbc
  generalize hX : w7.alloc (.cells #[.int .i64 fa, .slice D17 N7 K7] 24) = v4 at *
  clear hX
  generalize w7.heap.size = y7 at *
  have HN1 : Hid (ls.length ≤ 1000) := hid (by have := HN.out; omega)
  (with_reducible refine (ahead_to o x D7 ls.length c7 ls v4 HN1.out (XW.out.below Vv4.out) pa pe HP.out).mono ?_); rintro e v5 ⟨rfl, hb5⟩
  have X8 := hid (X8.out.belowS hb5)
  have F8 := hid (F8.out.below hb5)
  have X11 := hid (X11.out.belowS hb5)
  have F11 := hid (F11.out.below hb5)
  have X14 := hid (X14.out.belowS hb5)
  have F14 := hid (F14.out.below hb5)
  have X17 := hid (X17.out.belowS hb5)
  have F17 := hid (F17.out.below hb5)
  have Vv5 := hid (below_chain Vv4.out hb5)
  obtain ⟨a0, a1, a2, a3⟩ := two_facts (X3.out.below Vv5.out X3.out.lt)
  go_wp2_with fail
  have hRA := refAhead_any o x A ls.length c ls v5 HN1.out (XL.out.below Vv5.out)
  rw [HP.out] at hRA
  refine hRA.mono ?_
  rintro e v6 ⟨rfl, hb6⟩
  clear hRA
  clear a0 a1 a2 a3
  have X8 := hid (X8.out.belowS hb6)
  have F8 := hid (F8.out.below hb6)
  have X11 := hid (X11.out.belowS hb6)
  have F11 := hid (F11.out.below hb6)
  have X14 := hid (X14.out.belowS hb6)
  have F14 := hid (F14.out.below hb6)
  have X17 := hid (X17.out.belowS hb6)
  have F17 := hid (F17.out.below hb6)
  have Vv6 := hid (below_chain Vv5.out hb6)
  obtain ⟨a0, a1, a2, a3⟩ := two_facts (X8.out)
  obtain ⟨e0, e1, e2, e3⟩ := two_facts (X11.out)
  go_wp2_with fail
  have HN8 : Hid (n8 ≤ 1000) := hid (by
    have := F8.out.len
    have h1 : txs.length ≤ ls.length + 1 := by
      have := HT.out
      unfold takeL at this
      split at this
      · cases this; simp
      · split at this
        · cases this; simp
        · split at this
          · cases this; simp
          · cases this; simp
    have := HN.out
    omega)
  have HN5 : Hid (N5 ≤ 1000) := hid (by have h1 := F8.out.len; have h2 := F11.out.len; have := HN8.out; omega)
  have HN6 : Hid (N6 ≤ 1000) := hid (by
    have := F14.out.len
    have h1 : fxs.length ≤ ls.length := by
      have := HF.out
      unfold freeL at this
      split at this
      · cases this; simp
      · split at this
        · cases this; simp
        · cases this; simp
    have := HN.out
    omega)
  have HN7 : Hid (N7 ≤ 1000) := hid (by have h1 := F14.out.len; have h2 := F17.out.len; have := HN6.out; omega)
  have hS := refSame_any ta ta D8 D11 n8 N5 c8 K5 txs txs v6 F8.out.rd0 F11.out.rd0 HN8.out HN5.out
  rw [decide_eq_true (show ta = ta ∧ txs = txs from ⟨rfl, rfl⟩)] at hS
  refine hS.mono ?_
  rintro e v7 ⟨rfl, hb7⟩
  clear hS
  clear a0 a1 a2 a3 e0 e1 e2 e3
  have X8 := hid (X8.out.belowS hb7)
  have F8 := hid (F8.out.below hb7)
  have X11 := hid (X11.out.belowS hb7)
  have F11 := hid (F11.out.below hb7)
  have X14 := hid (X14.out.belowS hb7)
  have F14 := hid (F14.out.below hb7)
  have X17 := hid (X17.out.belowS hb7)
  have F17 := hid (F17.out.below hb7)
  have Vv7 := hid (below_chain Vv6.out hb7)
  obtain ⟨a0, a1, a2, a3⟩ := two_facts (X14.out)
  obtain ⟨e0, e1, e2, e3⟩ := two_facts (X17.out)
  go_wp2_with fail
  have hS := refSame_any fa fa D14 D17 N6 N7 K6 K7 fxs fxs v7 F14.out.rd0 F17.out.rd0 HN6.out HN7.out
  rw [decide_eq_true (show fa = fa ∧ fxs = fxs from ⟨rfl, rfl⟩)] at hS
  refine hS.mono ?_
  rintro e v8 ⟨rfl, hb8⟩
  clear hS
  clear a0 a1 a2 a3 e0 e1 e2 e3
  have X8 := hid (X8.out.belowS hb8)
  have F8 := hid (F8.out.below hb8)
  have X11 := hid (X11.out.belowS hb8)
  have F11 := hid (F11.out.below hb8)
  have X14 := hid (X14.out.belowS hb8)
  have F14 := hid (F14.out.below hb8)
  have X17 := hid (X17.out.belowS hb8)
  have F17 := hid (F17.out.below hb8)
  have Vv8 := hid (below_chain Vv7.out hb8)
  go_wp2_with fail
  clear hb5 hb6 hb7 hb8
  obtain ⟨a0, a1, a2, a3⟩ := two_facts ((X3.out.below Vv8.out X3.out.lt).drew)
  obtain ⟨b0, b1, b2, b3⟩ := two_facts ((X4.out.below Vv8.out X4.out.lt).drew)
  obtain ⟨e0, e1, e2, e3⟩ := two_facts ((X7.out.below Vv8.out X7.out.lt).drew)
  have hSt : v8.drew.cell? ⟨g7, 0, none⟩ = some (.int .i64 o) ∧ v8.drew.cell? ⟨g7, 1, none⟩ = some (.slice D7 ls.length c7) ∧ v8.drew.cell? ⟨w.heap.size, 0, none⟩ = some (.int .i64 o) ∧ v8.drew.cell? ⟨w.heap.size, 1, none⟩ = some (.slice A ls.length c) ∧ v8.drew.cell? ⟨w.heap.size + 1, 0, none⟩ = some (.int .i64 p) ∧ v8.drew.cell? ⟨w.heap.size + 1, 1, none⟩ = some (.slice B m d) ∧ Below v8.heap.size v8 v8.drew := ⟨e0, e1, a0, a1, b0, b1, rfl, rfl, rfl, Nat.le_refl _, fun _ _ => rfl⟩
  clear a0 a1 a2 a3 b0 b1 b2 b3 e0 e1 e2 e3
  have HM1 : Hid (m ≤ 1000) := hid (by have := HM.out; omega)
  have hq2 : ∀ b : Bool, (b == b) = true := fun b => beq_self_eq_true b
  have HQ2 := hid hq2
  clear hq2
  have HLK := hid (check_any o D7 ls.length c7 ls)
  have HRK := hid (refCheck_any o A ls.length c ls)
  have HLS := hid (same_any o p D7 B ls.length m c7 d ls os)
  have HRS := hid (refSame_any o p A B ls.length m c d ls os)
  generalize errOf (mayL o ls) = ek at *
  generalize decide (o = p ∧ ls = os) = qs at *
  refine wp_region_held_drew (S := (fun w' => w'.cell? ⟨g7, 0, none⟩ = some (.int .i64 o) ∧ w'.cell? ⟨g7, 1, none⟩ = some (.slice D7 ls.length c7) ∧ w'.cell? ⟨w.heap.size, 0, none⟩ = some (.int .i64 o) ∧ w'.cell? ⟨w.heap.size, 1, none⟩ = some (.slice A ls.length c) ∧ w'.cell? ⟨w.heap.size + 1, 0, none⟩ = some (.int .i64 p) ∧ w'.cell? ⟨w.heap.size + 1, 1, none⟩ = some (.slice B m d) ∧ Below v8.heap.size v8 w')) (by kernel_rfl) hSt (fun hHeld => ?_)
  refine reg_take (v := ?_) 0 rfl (by kernel_rfl) (by kernel_rfl) (by kernel_rfl) (fun _ _ _ h => h) (Or.inl ⟨by rfl, ?_⟩) (by assumption) ?_; rotate_left; (intro w hSw; (try dsimp only at hSw); go_simp); (try with_reducible rfl); (try simp only [Act.put, List.setIfInBounds_toArray, List.set_cons_zero, List.set_cons_succ])
  refine reg_take (v := ?_) 2 rfl (by kernel_rfl) (by kernel_rfl) (by kernel_rfl) (fun _ _ _ h => h) (Or.inl ⟨by rfl, ?_⟩) (by assumption) ?_; rotate_left; (intro w hSw; (try dsimp only at hSw); go_simp); (try with_reducible rfl); (try simp only [Act.put, List.setIfInBounds_toArray, List.set_cons_zero, List.set_cons_succ])
  refine reg_only 1 rfl (by kernel_rfl) (fun K hK => ?_); go_simp; refine (HLK.out _ HN1.out (XW.out.below (below_chain Vv8.out hHeld.2.2.2.2.2.2))).mono ?_; rintro e wq ⟨rfl, hbc⟩; refine hK.out _ _ ?_ (fun hHeld => ?_); (exact ⟨(hbc.cell (p := ⟨g7, 0, none⟩) (cell_lt (a := ⟨g7, 0, none⟩) hHeld.1)).trans hHeld.1, (hbc.cell (p := ⟨g7, 1, none⟩) (cell_lt (a := ⟨g7, 1, none⟩) hHeld.2.1)).trans hHeld.2.1, (hbc.cell (p := ⟨w.heap.size, 0, none⟩) (cell_lt (a := ⟨w.heap.size, 0, none⟩) hHeld.2.2.1)).trans hHeld.2.2.1, (hbc.cell (p := ⟨w.heap.size, 1, none⟩) (cell_lt (a := ⟨w.heap.size, 1, none⟩) hHeld.2.2.2.1)).trans hHeld.2.2.2.1, (hbc.cell (p := ⟨w.heap.size + 1, 0, none⟩) (cell_lt (a := ⟨w.heap.size + 1, 0, none⟩) hHeld.2.2.2.2.1)).trans hHeld.2.2.2.2.1, (hbc.cell (p := ⟨w.heap.size + 1, 1, none⟩) (cell_lt (a := ⟨w.heap.size + 1, 1, none⟩) hHeld.2.2.2.2.2.1)).trans hHeld.2.2.2.2.2.1, hHeld.2.2.2.2.2.2.trans (hbc.mono hHeld.2.2.2.2.2.2.size)⟩); clear hK K; (try simp only [Act.put, List.setIfInBounds_toArray, List.set_cons_zero, List.set_cons_succ])
  refine reg_only 3 rfl (by kernel_rfl) (fun K hK => ?_); go_simp; refine (HRK.out _ HN1.out (XL.out.below (below_chain Vv8.out hHeld.2.2.2.2.2.2))).mono ?_; rintro e wq ⟨rfl, hbc⟩; refine hK.out _ _ ?_ (fun hHeld => ?_); (exact ⟨(hbc.cell (p := ⟨g7, 0, none⟩) (cell_lt (a := ⟨g7, 0, none⟩) hHeld.1)).trans hHeld.1, (hbc.cell (p := ⟨g7, 1, none⟩) (cell_lt (a := ⟨g7, 1, none⟩) hHeld.2.1)).trans hHeld.2.1, (hbc.cell (p := ⟨w.heap.size, 0, none⟩) (cell_lt (a := ⟨w.heap.size, 0, none⟩) hHeld.2.2.1)).trans hHeld.2.2.1, (hbc.cell (p := ⟨w.heap.size, 1, none⟩) (cell_lt (a := ⟨w.heap.size, 1, none⟩) hHeld.2.2.2.1)).trans hHeld.2.2.2.1, (hbc.cell (p := ⟨w.heap.size + 1, 0, none⟩) (cell_lt (a := ⟨w.heap.size + 1, 0, none⟩) hHeld.2.2.2.2.1)).trans hHeld.2.2.2.2.1, (hbc.cell (p := ⟨w.heap.size + 1, 1, none⟩) (cell_lt (a := ⟨w.heap.size + 1, 1, none⟩) hHeld.2.2.2.2.2.1)).trans hHeld.2.2.2.2.2.1, hHeld.2.2.2.2.2.2.trans (hbc.mono hHeld.2.2.2.2.2.2.size)⟩); clear hK K; (try simp only [Act.put, List.setIfInBounds_toArray, List.set_cons_zero, List.set_cons_succ])
  refine reg_take (v := ?_) 4 rfl (by kernel_rfl) (by kernel_rfl) (by kernel_rfl) (fun _ _ _ h => h) (Or.inl ⟨by rfl, ?_⟩) (by assumption) ?_; rotate_left; (intro w hSw; (try dsimp only at hSw); go_simp); (try with_reducible rfl); (try simp only [Act.put, List.setIfInBounds_toArray, List.set_cons_zero, List.set_cons_succ])
  refine reg_take (v := ?_) 5 rfl (by kernel_rfl) (by kernel_rfl) (by kernel_rfl) (fun _ _ _ h => h) (Or.inl ⟨by rfl, ?_⟩) (by assumption) ?_; rotate_left; (intro w hSw; (try dsimp only at hSw); go_simp); (try with_reducible rfl); (try simp only [Act.put, List.setIfInBounds_toArray, List.set_cons_zero, List.set_cons_succ])
  refine reg_take (v := ?_) 6 rfl (by kernel_rfl) (by kernel_rfl) (by kernel_rfl) (fun _ _ _ h => h) (Or.inl ⟨by rfl, ?_⟩) (by assumption) ?_; rotate_left; (intro w hSw; (try dsimp only at hSw); go_simp); (try with_reducible rfl); (try simp only [Act.put, List.setIfInBounds_toArray, List.set_cons_zero, List.set_cons_succ])
  refine reg_take (v := ?_) 7 rfl (by kernel_rfl) (by kernel_rfl) (by kernel_rfl) (fun _ _ _ h => h) (Or.inl ⟨by rfl, ?_⟩) (by assumption) ?_; rotate_left; (intro w hSw; (try dsimp only at hSw); go_simp); (try with_reducible rfl); (try simp only [Act.put, List.setIfInBounds_toArray, List.set_cons_zero, List.set_cons_succ])
  refine reg_take (v := ?_) 9 rfl (by kernel_rfl) (by kernel_rfl) (by kernel_rfl) (fun _ _ _ h => h) (Or.inl ⟨by rfl, ?_⟩) (by assumption) ?_; rotate_left; (intro w hSw; (try dsimp only at hSw); go_simp); (try with_reducible rfl); (try simp only [Act.put, List.setIfInBounds_toArray, List.set_cons_zero, List.set_cons_succ])
  refine reg_take (v := ?_) 10 rfl (by kernel_rfl) (by kernel_rfl) (by kernel_rfl) (fun _ _ _ h => h) (Or.inl ⟨by rfl, ?_⟩) (by assumption) ?_; rotate_left; (intro w hSw; (try dsimp only at hSw); go_simp); (try with_reducible rfl); (try simp only [Act.put, List.setIfInBounds_toArray, List.set_cons_zero, List.set_cons_succ])
  refine reg_only 8 rfl (by kernel_rfl) (fun K hK => ?_); go_simp; refine (HLS.out _ (XW.out.below (below_chain Vv8.out hHeld.2.2.2.2.2.2)) (XO.out.below (below_chain Vv8.out hHeld.2.2.2.2.2.2)) HN1.out HM1.out).mono ?_; rintro e wq ⟨rfl, hbc⟩; refine hK.out _ _ ?_ (fun hHeld => ?_); (exact ⟨(hbc.cell (p := ⟨g7, 0, none⟩) (cell_lt (a := ⟨g7, 0, none⟩) hHeld.1)).trans hHeld.1, (hbc.cell (p := ⟨g7, 1, none⟩) (cell_lt (a := ⟨g7, 1, none⟩) hHeld.2.1)).trans hHeld.2.1, (hbc.cell (p := ⟨w.heap.size, 0, none⟩) (cell_lt (a := ⟨w.heap.size, 0, none⟩) hHeld.2.2.1)).trans hHeld.2.2.1, (hbc.cell (p := ⟨w.heap.size, 1, none⟩) (cell_lt (a := ⟨w.heap.size, 1, none⟩) hHeld.2.2.2.1)).trans hHeld.2.2.2.1, (hbc.cell (p := ⟨w.heap.size + 1, 0, none⟩) (cell_lt (a := ⟨w.heap.size + 1, 0, none⟩) hHeld.2.2.2.2.1)).trans hHeld.2.2.2.2.1, (hbc.cell (p := ⟨w.heap.size + 1, 1, none⟩) (cell_lt (a := ⟨w.heap.size + 1, 1, none⟩) hHeld.2.2.2.2.2.1)).trans hHeld.2.2.2.2.2.1, hHeld.2.2.2.2.2.2.trans (hbc.mono hHeld.2.2.2.2.2.2.size)⟩); clear hK K; (try simp only [Act.put, List.setIfInBounds_toArray, List.set_cons_zero, List.set_cons_succ])
  refine reg_only 11 rfl (by kernel_rfl) (fun K hK => ?_); go_simp; refine (HRS.out _ (XL.out.below (below_chain Vv8.out hHeld.2.2.2.2.2.2)) (XO.out.below (below_chain Vv8.out hHeld.2.2.2.2.2.2)) HN1.out HM1.out).mono ?_; rintro e wq ⟨rfl, hbc⟩; refine hK.out _ _ ?_ (fun hHeld => ?_); (exact ⟨(hbc.cell (p := ⟨g7, 0, none⟩) (cell_lt (a := ⟨g7, 0, none⟩) hHeld.1)).trans hHeld.1, (hbc.cell (p := ⟨g7, 1, none⟩) (cell_lt (a := ⟨g7, 1, none⟩) hHeld.2.1)).trans hHeld.2.1, (hbc.cell (p := ⟨w.heap.size, 0, none⟩) (cell_lt (a := ⟨w.heap.size, 0, none⟩) hHeld.2.2.1)).trans hHeld.2.2.1, (hbc.cell (p := ⟨w.heap.size, 1, none⟩) (cell_lt (a := ⟨w.heap.size, 1, none⟩) hHeld.2.2.2.1)).trans hHeld.2.2.2.1, (hbc.cell (p := ⟨w.heap.size + 1, 0, none⟩) (cell_lt (a := ⟨w.heap.size + 1, 0, none⟩) hHeld.2.2.2.2.1)).trans hHeld.2.2.2.2.1, (hbc.cell (p := ⟨w.heap.size + 1, 1, none⟩) (cell_lt (a := ⟨w.heap.size + 1, 1, none⟩) hHeld.2.2.2.2.2.1)).trans hHeld.2.2.2.2.2.1, hHeld.2.2.2.2.2.2.trans (hbc.mono hHeld.2.2.2.2.2.2.size)⟩); clear hK K; (try simp only [Act.put, List.setIfInBounds_toArray, List.set_cons_zero, List.set_cons_succ])
  refine reg_take (v := ?_) 12 rfl (by kernel_rfl) (by kernel_rfl) (by kernel_rfl) (fun _ _ _ h => h) (Or.inl ⟨by rfl, ?_⟩) (by assumption) ?_; rotate_left; (intro w hSw; (try dsimp only at hSw); go_simp); (try with_reducible rfl); (try simp only [Act.put, List.setIfInBounds_toArray, List.set_cons_zero, List.set_cons_succ])
  refine reg_take (v := ?_) 13 rfl (by kernel_rfl) (by kernel_rfl) (by kernel_rfl) (fun _ _ _ h => h) (Or.inl ⟨by rfl, ?_⟩) (by assumption) ?_; rotate_left; (intro w hSw; (try dsimp only at hSw); go_simp); (try with_reducible rfl); (try simp only [Act.put, List.setIfInBounds_toArray, List.set_cons_zero, List.set_cons_succ])
  refine reg_take (v := ?_) 14 rfl (by kernel_rfl) (by kernel_rfl) (by kernel_rfl) (fun _ _ _ h => h) (Or.inl ⟨by rfl, ?_⟩) (by assumption) ?_; rotate_left; (intro w hSw; (try dsimp only at hSw); go_simp); (try with_reducible rfl); (try simp only [Act.put, List.setIfInBounds_toArray, List.set_cons_zero, List.set_cons_succ])
  refine reg_take (v := ?_) 15 rfl (by kernel_rfl) (by kernel_rfl) (by kernel_rfl) (fun _ _ _ h => h) (Or.inl ⟨by rfl, ?_⟩) (by assumption) ?_; rotate_left; (intro w hSw; (try dsimp only at hSw); go_simp); (try with_reducible rfl); (try simp only [Act.put, List.setIfInBounds_toArray, List.set_cons_zero, List.set_cons_succ])
  refine reg_take (v := ?_) 16 rfl (by kernel_rfl) (by kernel_rfl) (by kernel_rfl) (fun _ _ _ h => h) (Or.inl ⟨by rfl, ?_⟩) (by assumption) ?_; rotate_left; (intro w hSw; (try dsimp only at hSw); go_simp); (try with_reducible rfl); (try simp only [Act.put, List.setIfInBounds_toArray, List.set_cons_zero, List.set_cons_succ])
  refine reg_only 17 rfl (by kernel_rfl) (fun K hK => ?_); go_simp; have hS := same_any o o D7 A ls.length ls.length c7 c ls ls _ (XW.out.below (below_chain Vv8.out hHeld.2.2.2.2.2.2)) (XL.out.below (below_chain Vv8.out hHeld.2.2.2.2.2.2)) HN1.out HN1.out; rw [decide_eq_true (show o = o ∧ ls = ls from ⟨rfl, rfl⟩)] at hS; refine hS.mono ?_; rintro e wq ⟨rfl, hbc⟩; clear hS; refine hK.out _ _ ?_ (fun hHeld => ?_); (exact ⟨(hbc.cell (p := ⟨g7, 0, none⟩) (cell_lt (a := ⟨g7, 0, none⟩) hHeld.1)).trans hHeld.1, (hbc.cell (p := ⟨g7, 1, none⟩) (cell_lt (a := ⟨g7, 1, none⟩) hHeld.2.1)).trans hHeld.2.1, (hbc.cell (p := ⟨w.heap.size, 0, none⟩) (cell_lt (a := ⟨w.heap.size, 0, none⟩) hHeld.2.2.1)).trans hHeld.2.2.1, (hbc.cell (p := ⟨w.heap.size, 1, none⟩) (cell_lt (a := ⟨w.heap.size, 1, none⟩) hHeld.2.2.2.1)).trans hHeld.2.2.2.1, (hbc.cell (p := ⟨w.heap.size + 1, 0, none⟩) (cell_lt (a := ⟨w.heap.size + 1, 0, none⟩) hHeld.2.2.2.2.1)).trans hHeld.2.2.2.2.1, (hbc.cell (p := ⟨w.heap.size + 1, 1, none⟩) (cell_lt (a := ⟨w.heap.size + 1, 1, none⟩) hHeld.2.2.2.2.2.1)).trans hHeld.2.2.2.2.2.1, hHeld.2.2.2.2.2.2.trans (hbc.mono hHeld.2.2.2.2.2.2.size)⟩); clear hK K; (try simp only [Act.put, List.setIfInBounds_toArray, List.set_cons_zero, List.set_cons_succ])
  refine reg_take (v := ?_) 18 rfl (by kernel_rfl) (by kernel_rfl) (by kernel_rfl) (fun _ _ _ h => h) (Or.inl ⟨by rfl, ?_⟩) (by assumption) ?_; rotate_left; (intro w hSw; (try dsimp only at hSw); go_simp); (try with_reducible rfl); (try simp only [Act.put, List.setIfInBounds_toArray, List.set_cons_zero, List.set_cons_succ])
  refine reg_take (v := ?_) 19 rfl (by kernel_rfl) (by kernel_rfl) (by kernel_rfl) (fun _ _ _ h => h) (Or.inl ⟨by rfl, ?_⟩) (by assumption) ?_; rotate_left; (intro w hSw; (try dsimp only at hSw); go_simp); (try with_reducible rfl); (try simp only [Act.put, List.setIfInBounds_toArray, List.set_cons_zero, List.set_cons_succ])
  refine reg_take (v := ?_) 20 rfl (by kernel_rfl) (by kernel_rfl) (by kernel_rfl) (fun _ _ _ h => h) (Or.inl ⟨by rfl, ?_⟩) (by assumption) ?_; rotate_left; (intro w hSw; (try dsimp only at hSw); go_simp); (try with_reducible rfl); (try simp only [Act.put, List.setIfInBounds_toArray, List.set_cons_zero, List.set_cons_succ])
  refine reg_take (v := ?_) 22 rfl (by kernel_rfl) (by kernel_rfl) (by kernel_rfl) (fun _ _ _ h => h) (Or.inl ⟨by rfl, ?_⟩) (by assumption) ?_; rotate_left; (intro w hSw; (try dsimp only at hSw); go_simp); (try with_reducible rfl); (try simp only [Act.put, List.setIfInBounds_toArray, List.set_cons_zero, List.set_cons_succ])
  refine reg_only 21 rfl (by kernel_rfl) (fun K hK => ?_); go_simp; refine (twin_any o D7 ls.length c7 ls _ HN1.out (XW.out.below (below_chain Vv8.out hHeld.2.2.2.2.2.2))).mono ?_; rintro e wq ⟨DT, cT, rfl, hOT, hbc⟩; refine hK.out _ _ ?_ (fun hHeld => ?_); (exact ⟨(hbc.cell (p := ⟨g7, 0, none⟩) (cell_lt (a := ⟨g7, 0, none⟩) hHeld.1)).trans hHeld.1, (hbc.cell (p := ⟨g7, 1, none⟩) (cell_lt (a := ⟨g7, 1, none⟩) hHeld.2.1)).trans hHeld.2.1, (hbc.cell (p := ⟨w.heap.size, 0, none⟩) (cell_lt (a := ⟨w.heap.size, 0, none⟩) hHeld.2.2.1)).trans hHeld.2.2.1, (hbc.cell (p := ⟨w.heap.size, 1, none⟩) (cell_lt (a := ⟨w.heap.size, 1, none⟩) hHeld.2.2.2.1)).trans hHeld.2.2.2.1, (hbc.cell (p := ⟨w.heap.size + 1, 0, none⟩) (cell_lt (a := ⟨w.heap.size + 1, 0, none⟩) hHeld.2.2.2.2.1)).trans hHeld.2.2.2.2.1, (hbc.cell (p := ⟨w.heap.size + 1, 1, none⟩) (cell_lt (a := ⟨w.heap.size + 1, 1, none⟩) hHeld.2.2.2.2.2.1)).trans hHeld.2.2.2.2.2.1, hHeld.2.2.2.2.2.2.trans (hbc.mono hHeld.2.2.2.2.2.2.size)⟩); clear hK K; (try simp only [Act.put, List.setIfInBounds_toArray, List.set_cons_zero, List.set_cons_succ])
  refine reg_only 23 rfl (by kernel_rfl) (fun K hK => ?_); go_simp; have hS := refSame_any o o DT A ls.length ls.length cT c ls ls _ (hOT.rd.low (Nat.zero_le _)) (XL.out.below (below_chain Vv8.out hHeld.2.2.2.2.2.2)) HN1.out HN1.out; rw [decide_eq_true (show o = o ∧ ls = ls from ⟨rfl, rfl⟩)] at hS; refine hS.mono ?_; rintro e wq ⟨rfl, hbc⟩; clear hS; refine hK.out _ _ ?_ (fun hHeld => ?_); (exact ⟨(hbc.cell (p := ⟨g7, 0, none⟩) (cell_lt (a := ⟨g7, 0, none⟩) hHeld.1)).trans hHeld.1, (hbc.cell (p := ⟨g7, 1, none⟩) (cell_lt (a := ⟨g7, 1, none⟩) hHeld.2.1)).trans hHeld.2.1, (hbc.cell (p := ⟨w.heap.size, 0, none⟩) (cell_lt (a := ⟨w.heap.size, 0, none⟩) hHeld.2.2.1)).trans hHeld.2.2.1, (hbc.cell (p := ⟨w.heap.size, 1, none⟩) (cell_lt (a := ⟨w.heap.size, 1, none⟩) hHeld.2.2.2.1)).trans hHeld.2.2.2.1, (hbc.cell (p := ⟨w.heap.size + 1, 0, none⟩) (cell_lt (a := ⟨w.heap.size + 1, 0, none⟩) hHeld.2.2.2.2.1)).trans hHeld.2.2.2.2.1, (hbc.cell (p := ⟨w.heap.size + 1, 1, none⟩) (cell_lt (a := ⟨w.heap.size + 1, 1, none⟩) hHeld.2.2.2.2.2.1)).trans hHeld.2.2.2.2.2.1, hHeld.2.2.2.2.2.2.trans (hbc.mono hHeld.2.2.2.2.2.2.size)⟩); clear hK K; (try simp only [Act.put, List.setIfInBounds_toArray, List.set_cons_zero, List.set_cons_succ])
  refine reg_take (v := ?_) 24 rfl (by kernel_rfl) (by kernel_rfl) (by kernel_rfl) (fun _ _ _ h => h) (Or.inl ⟨by rfl, ?_⟩) (by assumption) ?_; rotate_left; (intro w hSw; (try dsimp only at hSw); go_simp); (try with_reducible rfl); (try simp only [Act.put, List.setIfInBounds_toArray, List.set_cons_zero, List.set_cons_succ])
  refine reg_take (v := ?_) 25 rfl (by kernel_rfl) (by kernel_rfl) (by kernel_rfl) (fun _ _ _ h => h) (Or.inl ⟨by rfl, ?_⟩) (by assumption) ?_; rotate_left; (intro w hSw; (try dsimp only at hSw); go_simp); (try with_reducible rfl); (try simp only [Act.put, List.setIfInBounds_toArray, List.set_cons_zero, List.set_cons_succ])
  refine wpAnyH_done (by kernel_rfl) ?_ _
  have VR := hid (below_chain Vv8.out hHeld.2.2.2.2.2.2)
  have R8 := hid hHeld.2.2.2.2.2.2
  have F8 := hid (F8.out.below R8.out)
  have F14 := hid (F14.out.below R8.out)
  have X8 := hid (X8.out.belowS R8.out)
  have X14 := hid (X14.out.belowS R8.out)
  clear hSt hHeld hbc
  obtain ⟨a0, a1, a2, a3⟩ := two_facts X8.out
  go_wp2_with fail
  refine (spoil_any ta D8 n8 c8 wX.heap.size txs _ F8.out HN8.out).mono ?_
  rintro e w10 ⟨⟨ve, rfl⟩, hC8⟩
  have hS12 := Wv2.out.size
  have hL3 := Lv3.out
  have hG8 := G8.out
  have X14 := hid (hC8.blk X14.out (by
    rintro ⟨hp, q, e⟩
    have := (g8.out _ q e hp).2
    omega))
  have F14 := hid (F14.out.chg hC8 (by
    rintro b hb ⟨hp, q, e⟩
    have := (g8.out _ q e hp).2
    omega))
  have V10 := hid (below_of_chg VR.out hC8 (by
    rintro b ⟨hp, q, e⟩
    exact (g8.out _ q e hp).1))
  clear a0 a1 a2 a3 hC8
  obtain ⟨a0, a1, a2, a3⟩ := two_facts X14.out
  go_wp2_with fail
  refine (spoil_any fa D14 N6 K6 v2.heap.size fxs _ F14.out HN6.out).mono ?_
  rintro e w11 ⟨⟨vf, rfl⟩, hC14⟩
  have hX2 := Vv2.out.size
  have V11 := hid (below_of_chg V10.out hC14 (by
    rintro b ⟨hp, q, e⟩
    have := (F14.out.lt b q e hp).1
    omega))
  clear a0 a1 a2 a3 hC14
  obtain ⟨a0, a1, a2, a3⟩ := two_facts (X3.out.below V11.out X3.out.lt)
  obtain ⟨e0, e1, e2, e3⟩ := two_facts (X7.out.below V11.out X7.out.lt)
  go_wp2_with fail
  have hS := refSame_any o o D7 A ls.length ls.length c7 c ls ls _ (XW.out.below V11.out) (XL.out.below V11.out) HN1.out HN1.out
  rw [decide_eq_true (show o = o ∧ ls = ls from ⟨rfl, rfl⟩)] at hS
  refine hS.mono ?_
  rintro e w12 ⟨rfl, hb12⟩
  clear hS
  go_wp2
  go_ret
  exact ⟨rfl, XB.out.trans ((below_chain V11.out hb12).mono XB.out.size)⟩

theorem lockDoes_law (o : Int) (A : Option Addr) (n c : Nat) (ls : List Int) {w : World} (hR : Rd w 0 1 A n (ls.map iv)) (p : Int) (B : Option Addr) (m d : Nat) (os : List Int) (hS : Rd w 0 1 B m (os.map iv)) (x : Int) (_ : (Lit.int .i64 x).wf = true) :
    Calls Try.prog 5 #[.agg #[.int .i64 o, .slice A n c], .agg #[.int .i64 p, .slice B m d], .int .i64 x] w fun e w' => e = .returned (.bool true) ∧ Below w.heap.size w w' := by
  by_cases h : 30 < n ∨ 30 < m
  · exact does_big o p x A B n m c d w h
  · exact does_small o p x A B n m c d ls os w (by omega) (by omega) hR hS
end Go.Proofs.Ytopicgodflhjcaa
