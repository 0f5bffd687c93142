/-
  The law HubApart. The gap stands in its variable.
-/
import Derived.Test.YtmepbokoopgmiaaDoorHubM
import Derived.Deep.DeepCutAuto
namespace Go.Proofs.YtmepbokoopgmiaaDoor
open Go.RowKit
set_option linter.unusedSimpArgs false
set_option linter.unusedVariables false

theorem fdT_ok {l : List Sub} (ho : ∀ s ∈ l, ItsOk s.2.2.1) (id : Int) : ItsOk (fdT (findT l id)).1 := by
  unfold fdT
  cases h : findT l id with
  | none => exact itsOk_nil
  | some s =>
    refine ho s ?_
    unfold findT at h
    exact List.mem_of_find?_eq_some h
theorem fdT_len {l : List Sub} (ho : ∀ s ∈ l, s.2.2.1.length ≤ 20) (id : Int) : (fdT (findT l id)).1.length ≤ 20 := by
  unfold fdT
  cases h : findT l id with
  | none => exact Nat.zero_le _
  | some s =>
    refine ho s ?_
    unfold findT at h
    exact List.mem_of_find?_eq_some h
theorem joinT_len {h HJ : Hub} {most fr nj ej : Int} (e : joinT h most fr = (HJ, nj, ej)) (hl : h.2.length ≤ 18) : HJ.2.length ≤ 100 := by
  unfold joinT at e
  split at e
  · split at e
    · split at e
      · cases e; simp; omega
      · cases e; simp [zeroHub]
    · cases e; simp [zeroHub]
  · cases e; simp [zeroHub]
theorem leaveT_len {h HL : Hub} {id el : Int} (e : leaveT h id = (HL, el)) (hl : h.2.length ≤ 18) : HL.2.length ≤ 100 := by
  unfold leaveT at e
  split at e
  · split at e
    · cases e
      have := List.length_eraseIdx_le h.2 (place id h.2)
      simp only
      omega
    · cases e; simp [zeroHub]
  · cases e; simp [zeroHub]
theorem pollHT_len {h HP : Hub} {id ep : Int} {x : It} (e : pollHT h id = (HP, x, ep)) (hl : h.2.length ≤ 18) : HP.2.length ≤ 100 := by
  unfold pollHT at e
  split at e
  · split at e
    · split at e
      · cases e; simp; omega
      · cases e; simp [zeroHub]
    · cases e; simp [zeroHub]
  · cases e; simp [zeroHub]
theorem same_yes {xs : List It} (hx : ItsOk xs) (hl : xs.length ≤ 20) (l : Bool) (A B : Option Addr) (n m c d : Nat) (w : World) (ra : Rd w 0 101 A n (itsL xs)) (rb : Rd w 0 101 B m (itsL xs)) :
    Calls Tryd.prog 16 #[.agg #[.slice A n c, .bool l], .agg #[.slice B m d, .bool l]] w (GivesB w true) := by
  have := same_any A B n m c d l l xs xs hx hx w ra rb (by have := rd_len hx ra; omega)
  rwa [decide_eq_true rfl] at this
/-- What the law reads of a hub: whether, where three hubs are made of it, each one's other subscriber stays. -/
theorem apart_facts (h : Hub) (id other most fr : Int) (hne : id ≠ other) (HJ HL HP : Hub) (nj ej el ep : Int) (xp : It) (eJ : joinT h most fr = (HJ, nj, ej)) (eL : leaveT h other = (HL, el)) (eP : pollHT h other = (HP, xp, ep)) :
    (ej = 0 → (nj = id → findT h.2 id = none) ∧ (nj ≠ id → findT HJ.2 id = findT h.2 id) ∧ errOf (hubMay HJ) = 0) ∧ (el = 0 → findT HL.2 id = findT h.2 id ∧ errOf (hubMay HL) = 0) ∧ (ep = 0 → findT HP.2 id = findT h.2 id ∧ errOf (hubMay HP) = 0) := by
  refine ⟨fun e => ?_, fun e => ?_, fun e => ?_⟩
  · have he : (joinT h most fr).2.2 = 0 := by rw [eJ]; exact e
    have h1 := apart_join (id := id) he
    have h2 := (joinT_ok he).2.2
    rw [eJ] at h1 h2
    exact ⟨h1.1, h1.2, by rw [h2]; rfl⟩
  · have he : (leaveT h other).2 = 0 := by rw [eL]; exact e
    have h1 := apart_leave hne he
    have h2 := (leaveT_ok he).2.2.2
    rw [eL] at h1 h2
    exact ⟨h1, by rw [h2]; rfl⟩
  · have he : (pollHT h other).2.2 = 0 := by rw [eP]; exact e
    have h1 := apart_poll hne he
    have h2 := (pollHT_ok he).2.2
    rw [eP] at h1 h2
    exact ⟨h1, by rw [h2]; rfl⟩

set_option maxRecDepth 100000 in
set_option maxHeartbeats 16000000 in
theorem apart_any (h : Hub) (D : Option Addr) (m c : Nat) (id other most fr : Int) (w : World) (hh : HubIn w h D m) (hG : GOk w) :
    Calls Tryd.prog 4 #[.agg #[.int .i64 h.1, .slice D m c], .int .i64 id, .int .i64 other, .int .i64 most, .int .i64 fr] w (GivesB w true) := by
  have hA := hid (fun W k => alive_any W k)
  have hGr := hid (fun W k => great_any h D m c W k)
  have hso := hid hh.its
  have Rh := hid hh
  have HG0 := hid hG
  clear hh hG
  go_enter Tryd.func4, Tryd.ntmps4
  go_wp2_with (first
    | (refine wpList_bx rfl 24 _ rfl #[.int .i64 h.1, .slice D m c] rfl ?_; intro w1 hB1 hb1 hy; clear hy)
    | ((with_reducible refine (hA.out _ (HG0.out.below hb1)).mono ?_); rintro e w2 ⟨rfl, hb2⟩; obtain ⟨a0, a1, a2, a3⟩ := two_facts (hB1.belowS hb2)))
  refine (hGr.out _ (Rh.out.below (below_chain hb1 hb2))).mono ?_
  rintro e w3 ⟨b, rfl, hb3, hgr⟩
  have Y := hid (below_chain (below_chain hb1 hb2) hb3)
  have Xh := hid ((hB1.belowS hb2).belowS hb3)
  have Rh := hid (Rh.out.below Y.out)
  clear hB1 hb1 hb2 hb3 a0 a1 a2 a3 hA hGr
  generalize w.heap.size = gh at Xh ⊢
  cases b
  · by_cases hio : id = other
    · have hio' : (id == other) = true := by simpa using hio
      go_wp2
      go_ret
      exact ⟨rfl, Y.out⟩
    · have hio' : (id == other) = false := by simpa using hio
      obtain ⟨hm18, hl20⟩ := hgr rfl
      clear hgr
      obtain ⟨HJ, nj, ej, eJ⟩ : ∃ HJ nj ej, joinT h most fr = (HJ, nj, ej) := ⟨_, _, _, rfl⟩
      obtain ⟨HL, el, eL⟩ : ∃ HL el, leaveT h other = (HL, el) := ⟨_, _, rfl⟩
      obtain ⟨HP, xp, ep, eP⟩ : ∃ HP xp ep, pollHT h other = (HP, xp, ep) := ⟨_, _, _, rfl⟩
      have hF := hid (apart_facts h id other most fr hio HJ HL HP nj ej el ep xp eJ eL eP)
      have oxp : ItOk xp := by
        have := pollHT_itok hso.out other
        rw [eP] at this
        exact this
      have hJ := hid (fun W k q => join_p eJ D m c W k q)
      have hL := hid (fun W k q => leave_p eL D m c W k q)
      have hP := hid (fun W k q => poll_p eP D m c W k q)
      have hF0 := hid (fun W k => find_any h D m c id W k (by omega))
      have hFA := hid (fun D m c W k hm => find_any HJ D m c id W k hm)
      have hFB := hid (fun D m c W k hm => find_any HL D m c id W k hm)
      have hFC := hid (fun D m c W k hm => find_any HP D m c id W k hm)
      have hSy := hid (fun A B n m c d W ra rb => same_yes (fdT_ok hso.out id) (fdT_len hl20 id) (fdT (findT h.2 id)).2.1 A B n m c d W ra rb)
      have hcJ := hid (fun D m c W k q (he : ej = 0) => check_litH 0 (hF.out.1 he).2.2 D m c W k q)
      have hcL := hid (fun D m c W k q (he : el = 0) => check_litH 0 (hF.out.2.1 he).2 D m c W k q)
      have hcP := hid (fun D m c W k q (he : ep = 0) => check_litH 0 (hF.out.2.2 he).2 D m c W k q)
      have hlJ := hid (joinT_len eJ (by have := Rh.out.len; omega))
      have hlL := hid (leaveT_len eL (by have := Rh.out.len; omega))
      have hlP := hid (pollHT_len eP (by have := Rh.out.len; omega))
      -- what find gives, named
      have hq := hid (show (ej = 0 → (nj = id → (fdT (findT h.2 id)).2.2 = false) ∧ (nj ≠ id → fdT (findT HJ.2 id) = fdT (findT h.2 id))) ∧ (el = 0 → fdT (findT HL.2 id) = fdT (findT h.2 id)) ∧ (ep = 0 → fdT (findT HP.2 id) = fdT (findT h.2 id)) from
        ⟨fun e => ⟨fun e2 => by rw [(hF.out.1 e).1 e2]; rfl, fun e2 => by rw [(hF.out.1 e).2.1 e2]⟩, fun e => by rw [(hF.out.2.1 e).1], fun e => by rw [(hF.out.2.2 e).1]⟩)
      clear hF eJ eL eP hso hl20 hio
      unfold GivesFd at hF0 hFA hFB hFC
      generalize fdT (findT h.2 id) = F0 at *
      generalize fdT (findT HJ.2 id) = FA at *
      generalize fdT (findT HL.2 id) = FB at *
      generalize fdT (findT HP.2 id) = FC at *
      obtain ⟨xs0, l0, i0⟩ := F0
      obtain ⟨xsA, lA, iA⟩ := FA
      obtain ⟨xsB, lB, iB⟩ := FB
      obtain ⟨xsC, lC, iC⟩ := FC
      simp only at hF0 hFA hFB hFC hSy hq
      have hzr : Hid (∀ W, (zeroValue 36).run Tryd.prog W = .ok (.agg (itL zeroIt).toArray) W) := hid zeroI_run
      have hsX := item_sz oxp
      have hoX := hid (it_one xp)
      have hsZ := it_sizeA zeroIt zeroIt_ok
      generalize hZL : (itL zeroIt).toArray = Z at *
      clear hZL
      generalize hXL : (itL xp).toArray = XP at *
      clear hXL
      obtain ⟨a0, a1, a2, a3⟩ := two_facts Xh.out
      go_upto_region 5 with (first
        | ((with_reducible refine (hF0.out _ Rh.out).mono ?_); rintro e v1 ⟨D0, m0, c0, rfl, hR1', hR1, hb1⟩)
        | ((with_reducible refine at_alloc (d := some 12) 47 ?_); refine wpList_al rfl 47 rfl _ (tap_zero _) ?_; intro v2 hB2 hb2 hy; clear hy)
        | ((with_reducible refine at_store 47 ?_); refine wpList_str rfl 47 _ _ rfl v1.heap.size _ rfl rfl _ _ hB2 rfl (tap_size _ _) (one_tap _ _ _ _) ?_; intro v4 hB4 hg4 hy; clear hy))
      have hq : Below v1.heap.size v1 v4 := hb2.grown hg4 hb2.size (by intro k e; cases e; exact Nat.le_refl _)
      have X0 := hid hB4
      have R0 := hid (hR1.below hq)
      have hall := below_chain hb1 hq
      have Y := hid (below_chain Y.out hall)
      have Xh := hid (Xh.out.belowS hall)
      have Rh := hid (Rh.out.below hall)
      clear hb1 hR1' hR1 hB2 hb2 hB4 hg4 hq hall a0 a1 a2 a3
      generalize v1.heap.size = g0 at *
      generalize v4 = w0 at *
      obtain ⟨a0, a1, a2, a3⟩ := two_facts Xh.out
      go_upto_region 6 with (first
        | ((with_reducible refine (hJ.out _ Rh.out (HG0.out.below Y.out)).mono ?_); rintro e v1 ⟨DJ, mJ, cJ, rfl, hR1', hb1⟩; have hR1 := hR1'.in_)
        | ((with_reducible refine at_alloc (d := some 14) 24 ?_); refine wpList_al rfl 24 rfl _ (hub_zero _) ?_; intro v2 hB2 hb2 hy; clear hy)
        | ((with_reducible refine at_store 24 ?_); refine wpList_str rfl 24 _ _ rfl v1.heap.size _ rfl rfl _ _ hB2 rfl (hub_size _ _) (one_hub _ _ _ _) ?_; intro v4 hB4 hg4 hy; clear hy))
      have hq : Below v1.heap.size v1 v4 := hb2.grown hg4 hb2.size (by intro k e; cases e; exact Nat.le_refl _)
      have XJ := hid hB4
      have RJ := hid (hR1.below hq)
      have hall := below_chain hb1 hq
      have Y := hid (below_chain Y.out hall)
      have Xh := hid (Xh.out.belowS hall)
      have Rh := hid (Rh.out.below hall)
      have X0 := hid (X0.out.belowS hall)
      have R0 := hid (R0.out.below hall)
      clear hb1 hR1' hR1 hB2 hb2 hB4 hg4 hq hall a0 a1 a2 a3
      generalize v1.heap.size = gJ at *
      generalize v4 = wJ at *
      obtain ⟨a0, a1, a2, a3⟩ := two_facts Xh.out
      go_upto_region 7 with (first
        | ((with_reducible refine (hL.out _ Rh.out (HG0.out.below Y.out)).mono ?_); rintro e v1 ⟨DL, mL, cL, rfl, hR1', hb1⟩; have hR1 := hR1'.in_)
        | ((with_reducible refine at_alloc (d := some 17) 24 ?_); refine wpList_al rfl 24 rfl _ (hub_zero _) ?_; intro v2 hB2 hb2 hy; clear hy)
        | ((with_reducible refine at_store 24 ?_); refine wpList_str rfl 24 _ _ rfl v1.heap.size _ rfl rfl _ _ hB2 rfl (hub_size _ _) (one_hub _ _ _ _) ?_; intro v4 hB4 hg4 hy; clear hy))
      have hq : Below v1.heap.size v1 v4 := hb2.grown hg4 hb2.size (by intro k e; cases e; exact Nat.le_refl _)
      have XL := hid hB4
      have RL := hid (hR1.below hq)
      have hall := below_chain hb1 hq
      have Y := hid (below_chain Y.out hall)
      have Xh := hid (Xh.out.belowS hall)
      have Rh := hid (Rh.out.below hall)
      have X0 := hid (X0.out.belowS hall)
      have R0 := hid (R0.out.below hall)
      have XJ := hid (XJ.out.belowS hall)
      have RJ := hid (RJ.out.below hall)
      clear hb1 hR1' hR1 hB2 hb2 hB4 hg4 hq hall a0 a1 a2 a3
      generalize v1.heap.size = gL at *
      generalize v4 = wL at *
      obtain ⟨a0, a1, a2, a3⟩ := two_facts Xh.out
      go_upto_region 8 with (first
        | ((with_reducible refine (hP.out _ Rh.out (HG0.out.below Y.out)).mono ?_); rintro e v1 ⟨DP, mP, cP, rfl, hR1', hb1⟩; have hR1 := hR1'.in_)
        | ((with_reducible refine at_alloc (d := some 19) 24 ?_); refine wpList_al rfl 24 rfl _ (hub_zero _) ?_; intro v2 hB2 hb2 hy; clear hy)
        | ((with_reducible refine at_alloc (d := some 20) 36 ?_); refine wpList_al rfl 36 rfl _ (hzr.out _) ?_; intro v3 hB3 hb3 hy; clear hy; have l23 := hB2.lt)
        | ((with_reducible refine at_store 24 ?_); refine wpList_str rfl 24 _ _ rfl v1.heap.size _ rfl rfl _ _ (hB2.belowS hb3) rfl (hub_size _ _) (one_hub _ _ _ _) ?_; intro v4 hB4 hg4 hy; clear hy)
        | ((with_reducible refine at_store 36 ?_); refine wpList_str rfl 36 _ _ rfl v2.heap.size XP rfl rfl _ _ (hB3.grown hg4 (fun e => by have := Option.some.inj e; omega)) hsX hsZ hoX.out ?_; intro v5 hB5 hg5 hy; clear hy))
      have hq2 := below_chain hb2 hb3
      have hq4 : Below v1.heap.size v1 v4 := hq2.grown hg4 hq2.size (by intro k e; cases e; exact Nat.le_refl _)
      have hq : Below v1.heap.size v1 v5 := hq4.grown hg5 hq4.size (by intro k e; cases e; exact hb2.size)
      have XP := hid (hB4.grown hg5 (fun e => by have := Option.some.inj e; omega))
      have ZP := hid hB5
      have RP := hid (hR1.below hq)
      have hall := below_chain hb1 hq
      have Y := hid (below_chain Y.out hall)
      have Xh := hid (Xh.out.belowS hall)
      have Rh := hid (Rh.out.below hall)
      have X0 := hid (X0.out.belowS hall)
      have R0 := hid (R0.out.below hall)
      have XJ := hid (XJ.out.belowS hall)
      have RJ := hid (RJ.out.below hall)
      have XL := hid (XL.out.belowS hall)
      have RL := hid (RL.out.below hall)
      clear hb1 hR1' hR1 hB2 hb2 hB4 hg4 hq hall hB3 hb3 l23 hq2 hq4 hB5 hg5 a0 a1 a2 a3
      generalize v1.heap.size = gP at *
      generalize v2.heap.size = giP at *
      generalize v5 = wP at *
      clear hF0 hJ hL hP Xh Rh
      clear ZP
      have hmJ : mJ ≤ 1000 := by have := RJ.out.len; have := hlJ.out; omega
      obtain ⟨a0, a1, a2, a3⟩ := two_facts XJ.out
      go_upto_region 9 with (first
        | ((with_reducible refine (hFA.out _ _ _ _ RJ.out hmJ).mono ?_); rintro e v1 ⟨DA, mA, cA, rfl, hR1', hR1, hb1⟩)
        | ((with_reducible refine at_alloc (d := some 22) 47 ?_); refine wpList_al rfl 47 rfl _ (tap_zero _) ?_; intro v2 hB2 hb2 hy; clear hy)
        | ((with_reducible refine at_store 47 ?_); refine wpList_str rfl 47 _ _ rfl v1.heap.size _ rfl rfl _ _ hB2 rfl (tap_size _ _) (one_tap _ _ _ _) ?_; intro v4 hB4 hg4 hy; clear hy))
      have hq : Below v1.heap.size v1 v4 := hb2.grown hg4 hb2.size (by intro k e; cases e; exact Nat.le_refl _)
      have XA := hid hB4
      have RA := hid (hR1.below hq)
      have hall := below_chain hb1 hq
      have Y := hid (below_chain Y.out hall)
      have X0 := hid (X0.out.belowS hall)
      have R0 := hid (R0.out.below hall)
      have XJ := hid (XJ.out.belowS hall)
      have RJ := hid (RJ.out.below hall)
      have XL := hid (XL.out.belowS hall)
      have RL := hid (RL.out.below hall)
      have XP := hid (XP.out.belowS hall)
      have RP := hid (RP.out.below hall)
      clear hb1 hR1' hR1 hB2 hb2 hB4 hg4 hq hall a0 a1 a2 a3
      generalize v1.heap.size = gA at *
      generalize v4 = wA at *
      have hmL : mL ≤ 1000 := by have := RL.out.len; have := hlL.out; omega
      obtain ⟨a0, a1, a2, a3⟩ := two_facts XL.out
      go_upto_region 10 with (first
        | ((with_reducible refine (hFB.out _ _ _ _ RL.out hmL).mono ?_); rintro e v1 ⟨DB, mB, cB, rfl, hR1', hR1, hb1⟩)
        | ((with_reducible refine at_alloc (d := some 24) 47 ?_); refine wpList_al rfl 47 rfl _ (tap_zero _) ?_; intro v2 hB2 hb2 hy; clear hy)
        | ((with_reducible refine at_store 47 ?_); refine wpList_str rfl 47 _ _ rfl v1.heap.size _ rfl rfl _ _ hB2 rfl (tap_size _ _) (one_tap _ _ _ _) ?_; intro v4 hB4 hg4 hy; clear hy))
      have hq : Below v1.heap.size v1 v4 := hb2.grown hg4 hb2.size (by intro k e; cases e; exact Nat.le_refl _)
      have XB := hid hB4
      have RB := hid (hR1.below hq)
      have hall := below_chain hb1 hq
      have Y := hid (below_chain Y.out hall)
      have X0 := hid (X0.out.belowS hall)
      have R0 := hid (R0.out.below hall)
      have XJ := hid (XJ.out.belowS hall)
      have RJ := hid (RJ.out.below hall)
      have XL := hid (XL.out.belowS hall)
      have RL := hid (RL.out.below hall)
      have XP := hid (XP.out.belowS hall)
      have RP := hid (RP.out.below hall)
      have XA := hid (XA.out.belowS hall)
      have RA := hid (RA.out.below hall)
      clear hb1 hR1' hR1 hB2 hb2 hB4 hg4 hq hall a0 a1 a2 a3
      generalize v1.heap.size = gB at *
      generalize v4 = wB at *
      have hmP : mP ≤ 1000 := by have := RP.out.len; have := hlP.out; omega
      obtain ⟨a0, a1, a2, a3⟩ := two_facts XP.out
      go_upto_region 11 with (first
        | ((with_reducible refine (hFC.out _ _ _ _ RP.out hmP).mono ?_); rintro e v1 ⟨DC, mC, cC, rfl, hR1', hR1, hb1⟩)
        | ((with_reducible refine at_alloc (d := some 26) 47 ?_); refine wpList_al rfl 47 rfl _ (tap_zero _) ?_; intro v2 hB2 hb2 hy; clear hy)
        | ((with_reducible refine at_store 47 ?_); refine wpList_str rfl 47 _ _ rfl v1.heap.size _ rfl rfl _ _ hB2 rfl (tap_size _ _) (one_tap _ _ _ _) ?_; intro v4 hB4 hg4 hy; clear hy))
      have hq : Below v1.heap.size v1 v4 := hb2.grown hg4 hb2.size (by intro k e; cases e; exact Nat.le_refl _)
      have XC := hid hB4
      have RC := hid (hR1.below hq)
      have hall := below_chain hb1 hq
      have Y := hid (below_chain Y.out hall)
      have X0 := hid (X0.out.belowS hall)
      have R0 := hid (R0.out.below hall)
      have XJ := hid (XJ.out.belowS hall)
      have RJ := hid (RJ.out.below hall)
      have XL := hid (XL.out.belowS hall)
      have RL := hid (RL.out.below hall)
      have XP := hid (XP.out.belowS hall)
      have RP := hid (RP.out.below hall)
      have XA := hid (XA.out.belowS hall)
      have RA := hid (RA.out.below hall)
      have XB := hid (XB.out.belowS hall)
      have RB := hid (RB.out.below hall)
      clear hb1 hR1' hR1 hB2 hb2 hB4 hg4 hq hall a0 a1 a2 a3
      generalize v1.heap.size = gC at *
      generalize v4 = wC at *
      go_cut [111] (fun t wx => t = .bool false ∧ Below wC.heap.size wC wx)
      case first =>
        obtain ⟨p0, p1, _, _⟩ := two_facts X0.out
        obtain ⟨q0, q1, _, _⟩ := two_facts XA.out
        by_cases he : ej = 0
        · have he' : (ej == 0) = true := by simpa using he
          by_cases hn : nj = id
          · have hi := (hq.out.1 he).1 hn
            subst hi
            subst hn
            clear he
            go_wp2
            go_meet
            exact ⟨rfl, Below.refl _ _⟩
          · have hn' : (nj == id) = false := by simpa using hn
            have hi := (hq.out.1 he).2 hn
            obtain ⟨rfl, rfl, rfl⟩ : xsA = xs0 ∧ lA = l0 ∧ iA = i0 := by simpa only [Prod.mk.injEq] using hi
            have hn2 : (nj != id) = true := by simpa using hn
            clear he hi
            go_wp2_with ((with_reducible refine (hSy.out _ _ _ _ _ _ _ RA.out R0.out).mono ?_); rintro e v1 ⟨rfl, hb1⟩)
            go_meet
            exact ⟨rfl, hb1⟩
        · have he' : (ej == 0) = false := by simpa using he
          clear he
          go_wp2
          go_meet
          exact ⟨rfl, Below.refl _ _⟩
      case rest =>
        obtain ⟨rfl, hbc⟩ := hcut
        have Y := hid (below_chain Y.out hbc)
        have X0 := hid (X0.out.belowS hbc)
        have R0 := hid (R0.out.below hbc)
        have XJ := hid (XJ.out.belowS hbc)
        have RJ := hid (RJ.out.below hbc)
        have XL := hid (XL.out.belowS hbc)
        have RL := hid (RL.out.below hbc)
        have XP := hid (XP.out.belowS hbc)
        have RP := hid (RP.out.below hbc)
        have XB := hid (XB.out.belowS hbc)
        have RB := hid (RB.out.below hbc)
        have XC := hid (XC.out.belowS hbc)
        have RC := hid (RC.out.below hbc)
        clear hbc XA RA
        go_upto_region 13 with fail
        generalize wc = wD at *
        go_cut [139] (fun t wx => t = .bool false ∧ Below wD.heap.size wD wx)
        case first =>
          obtain ⟨p0, p1, _, _⟩ := two_facts X0.out
          by_cases hel : el = 0
          · by_cases hep : ep = 0
            · have hel' : (el == 0) = true := by simpa using hel
              have hep' : (ep == 0) = true := by simpa using hep
              obtain ⟨rfl, rfl, rfl⟩ : xsB = xs0 ∧ lB = l0 ∧ iB = i0 := by simpa only [Prod.mk.injEq] using hq.out.2.1 hel
              obtain ⟨q0, q1, _, _⟩ := two_facts XB.out
              have hC3 := hq.out.2.2 hep
              simp only [Prod.mk.injEq] at hC3
              obtain ⟨rfl, rfl, rfl⟩ := hC3
              clear hel hep
              go_wp2_with (first | ((with_reducible refine (hSy.out _ _ _ _ _ _ _ RB.out R0.out).mono ?_); rintro e v1 ⟨rfl, hb1⟩; clear p0 p1 q0 q1; obtain ⟨p0, p1, _, _⟩ := two_facts (X0.out.belowS hb1); obtain ⟨r0, r1, _, _⟩ := two_facts (XC.out.belowS hb1); have RC1 := RC.out.below hb1; have R01 := R0.out.below hb1) | ((with_reducible refine (hSy.out _ _ _ _ _ _ _ RC1 R01).mono ?_); rintro e v2 ⟨rfl, hb2⟩))
              go_meet
              exact ⟨rfl, below_chain hb1 hb2⟩
            · have hel' : (el == 0) = true := by simpa using hel
              have hep' : (ep == 0) = false := by simpa using hep
              obtain ⟨rfl, rfl, rfl⟩ : xsB = xs0 ∧ lB = l0 ∧ iB = i0 := by simpa only [Prod.mk.injEq] using hq.out.2.1 hel
              obtain ⟨q0, q1, _, _⟩ := two_facts XB.out
              clear hel hep
              go_wp2_with (first | ((with_reducible refine (hSy.out _ _ _ _ _ _ _ RB.out R0.out).mono ?_); rintro e v1 ⟨rfl, hb1⟩; clear p0 p1 q0 q1; obtain ⟨p0, p1, _, _⟩ := two_facts (X0.out.belowS hb1); obtain ⟨r0, r1, _, _⟩ := two_facts (XC.out.belowS hb1); have RC1 := RC.out.below hb1; have R01 := R0.out.below hb1))
              go_meet
              exact ⟨rfl, hb1⟩
          · by_cases hep : ep = 0
            · have hel' : (el == 0) = false := by simpa using hel
              have hep' : (ep == 0) = true := by simpa using hep
              have hC3 := hq.out.2.2 hep
              simp only [Prod.mk.injEq] at hC3
              obtain ⟨rfl, rfl, rfl⟩ := hC3
              obtain ⟨r0, r1, _, _⟩ := two_facts XC.out
              clear hel hep
              go_wp2_with (first | ((with_reducible refine (hSy.out _ _ _ _ _ _ _ RC.out R0.out).mono ?_); rintro e v2 ⟨rfl, hb2⟩))
              go_meet
              exact ⟨rfl, hb2⟩
            · have hel' : (el == 0) = false := by simpa using hel
              have hep' : (ep == 0) = false := by simpa using hep
              clear hel hep
              go_wp2
              go_meet
              exact ⟨rfl, Below.refl _ _⟩
        case rest =>
          obtain ⟨rfl, hbc⟩ := hcut
          have Y := hid (below_chain Y.out hbc)
          have XJ := hid (XJ.out.belowS hbc)
          have RJ := hid (RJ.out.below hbc)
          have XL := hid (XL.out.belowS hbc)
          have RL := hid (RL.out.below hbc)
          have XP := hid (XP.out.belowS hbc)
          have RP := hid (RP.out.below hbc)
          clear hbc X0 R0 XB RB XC RC
          generalize wc = wE at *
          obtain ⟨p0, p1, _, _⟩ := two_facts XJ.out
          obtain ⟨q0, q1, _, _⟩ := two_facts XL.out
          obtain ⟨r0, r1, _, _⟩ := two_facts XP.out
          by_cases hej : ej = 0
          · by_cases hel : el = 0
            · by_cases hep : ep = 0
              · have hej' : (ej == 0) = true := by simpa using hej
                have hel' : (el == 0) = true := by simpa using hel
                have hep' : (ep == 0) = true := by simpa using hep
                go_wp2_with (first | ((with_reducible refine (hcJ.out _ _ _ _ (RJ.out) (HG0.out.below Y.out) hej).mono ?_); rintro e v1 ⟨rfl, hb1⟩; clear p0 p1 q0 q1 r0 r1; obtain ⟨p0, p1, _, _⟩ := two_facts ((XJ.out.belowS hb1)); obtain ⟨q0, q1, _, _⟩ := two_facts ((XL.out.belowS hb1)); obtain ⟨r0, r1, _, _⟩ := two_facts ((XP.out.belowS hb1))) | ((with_reducible refine (hcL.out _ _ _ _ ((RL.out).below hb1) ((HG0.out.below Y.out).below hb1) hel).mono ?_); rintro e v2 ⟨rfl, hb2⟩; clear p0 p1 q0 q1 r0 r1; obtain ⟨p0, p1, _, _⟩ := two_facts (((XJ.out.belowS hb1).belowS hb2)); obtain ⟨q0, q1, _, _⟩ := two_facts (((XL.out.belowS hb1).belowS hb2)); obtain ⟨r0, r1, _, _⟩ := two_facts (((XP.out.belowS hb1).belowS hb2))) | ((with_reducible refine (hcP.out _ _ _ _ (((RP.out).below hb1).below hb2) (((HG0.out.below Y.out).below hb1).below hb2) hep).mono ?_); rintro e v3 ⟨rfl, hb3⟩; clear p0 p1 q0 q1 r0 r1; obtain ⟨p0, p1, _, _⟩ := two_facts ((((XJ.out.belowS hb1).belowS hb2).belowS hb3)); obtain ⟨q0, q1, _, _⟩ := two_facts ((((XL.out.belowS hb1).belowS hb2).belowS hb3)); obtain ⟨r0, r1, _, _⟩ := two_facts ((((XP.out.belowS hb1).belowS hb2).belowS hb3))))
                go_ret
                exact ⟨rfl, below_chain (below_chain (below_chain (Y.out) hb1) hb2) hb3⟩
              · have hej' : (ej == 0) = true := by simpa using hej
                have hel' : (el == 0) = true := by simpa using hel
                have hep' : (ep == 0) = false := by simpa using hep
                go_wp2_with (first | ((with_reducible refine (hcJ.out _ _ _ _ (RJ.out) (HG0.out.below Y.out) hej).mono ?_); rintro e v1 ⟨rfl, hb1⟩; clear p0 p1 q0 q1 r0 r1; obtain ⟨p0, p1, _, _⟩ := two_facts ((XJ.out.belowS hb1)); obtain ⟨q0, q1, _, _⟩ := two_facts ((XL.out.belowS hb1)); obtain ⟨r0, r1, _, _⟩ := two_facts ((XP.out.belowS hb1))) | ((with_reducible refine (hcL.out _ _ _ _ ((RL.out).below hb1) ((HG0.out.below Y.out).below hb1) hel).mono ?_); rintro e v2 ⟨rfl, hb2⟩; clear p0 p1 q0 q1 r0 r1; obtain ⟨p0, p1, _, _⟩ := two_facts (((XJ.out.belowS hb1).belowS hb2)); obtain ⟨q0, q1, _, _⟩ := two_facts (((XL.out.belowS hb1).belowS hb2)); obtain ⟨r0, r1, _, _⟩ := two_facts (((XP.out.belowS hb1).belowS hb2))))
                go_ret
                exact ⟨rfl, below_chain (below_chain (Y.out) hb1) hb2⟩
            · by_cases hep : ep = 0
              · have hej' : (ej == 0) = true := by simpa using hej
                have hel' : (el == 0) = false := by simpa using hel
                have hep' : (ep == 0) = true := by simpa using hep
                go_wp2_with (first | ((with_reducible refine (hcJ.out _ _ _ _ (RJ.out) (HG0.out.below Y.out) hej).mono ?_); rintro e v1 ⟨rfl, hb1⟩; clear p0 p1 q0 q1 r0 r1; obtain ⟨p0, p1, _, _⟩ := two_facts ((XJ.out.belowS hb1)); obtain ⟨q0, q1, _, _⟩ := two_facts ((XL.out.belowS hb1)); obtain ⟨r0, r1, _, _⟩ := two_facts ((XP.out.belowS hb1))) | ((with_reducible refine (hcP.out _ _ _ _ ((RP.out).below hb1) ((HG0.out.below Y.out).below hb1) hep).mono ?_); rintro e v2 ⟨rfl, hb2⟩; clear p0 p1 q0 q1 r0 r1; obtain ⟨p0, p1, _, _⟩ := two_facts (((XJ.out.belowS hb1).belowS hb2)); obtain ⟨q0, q1, _, _⟩ := two_facts (((XL.out.belowS hb1).belowS hb2)); obtain ⟨r0, r1, _, _⟩ := two_facts (((XP.out.belowS hb1).belowS hb2))))
                go_ret
                exact ⟨rfl, below_chain (below_chain (Y.out) hb1) hb2⟩
              · have hej' : (ej == 0) = true := by simpa using hej
                have hel' : (el == 0) = false := by simpa using hel
                have hep' : (ep == 0) = false := by simpa using hep
                go_wp2_with (first | ((with_reducible refine (hcJ.out _ _ _ _ (RJ.out) (HG0.out.below Y.out) hej).mono ?_); rintro e v1 ⟨rfl, hb1⟩; clear p0 p1 q0 q1 r0 r1; obtain ⟨p0, p1, _, _⟩ := two_facts ((XJ.out.belowS hb1)); obtain ⟨q0, q1, _, _⟩ := two_facts ((XL.out.belowS hb1)); obtain ⟨r0, r1, _, _⟩ := two_facts ((XP.out.belowS hb1))))
                go_ret
                exact ⟨rfl, below_chain (Y.out) hb1⟩
          · by_cases hel : el = 0
            · by_cases hep : ep = 0
              · have hej' : (ej == 0) = false := by simpa using hej
                have hel' : (el == 0) = true := by simpa using hel
                have hep' : (ep == 0) = true := by simpa using hep
                go_wp2_with (first | ((with_reducible refine (hcL.out _ _ _ _ (RL.out) (HG0.out.below Y.out) hel).mono ?_); rintro e v1 ⟨rfl, hb1⟩; clear p0 p1 q0 q1 r0 r1; obtain ⟨p0, p1, _, _⟩ := two_facts ((XJ.out.belowS hb1)); obtain ⟨q0, q1, _, _⟩ := two_facts ((XL.out.belowS hb1)); obtain ⟨r0, r1, _, _⟩ := two_facts ((XP.out.belowS hb1))) | ((with_reducible refine (hcP.out _ _ _ _ ((RP.out).below hb1) ((HG0.out.below Y.out).below hb1) hep).mono ?_); rintro e v2 ⟨rfl, hb2⟩; clear p0 p1 q0 q1 r0 r1; obtain ⟨p0, p1, _, _⟩ := two_facts (((XJ.out.belowS hb1).belowS hb2)); obtain ⟨q0, q1, _, _⟩ := two_facts (((XL.out.belowS hb1).belowS hb2)); obtain ⟨r0, r1, _, _⟩ := two_facts (((XP.out.belowS hb1).belowS hb2))))
                go_ret
                exact ⟨rfl, below_chain (below_chain (Y.out) hb1) hb2⟩
              · have hej' : (ej == 0) = false := by simpa using hej
                have hel' : (el == 0) = true := by simpa using hel
                have hep' : (ep == 0) = false := by simpa using hep
                go_wp2_with (first | ((with_reducible refine (hcL.out _ _ _ _ (RL.out) (HG0.out.below Y.out) hel).mono ?_); rintro e v1 ⟨rfl, hb1⟩; clear p0 p1 q0 q1 r0 r1; obtain ⟨p0, p1, _, _⟩ := two_facts ((XJ.out.belowS hb1)); obtain ⟨q0, q1, _, _⟩ := two_facts ((XL.out.belowS hb1)); obtain ⟨r0, r1, _, _⟩ := two_facts ((XP.out.belowS hb1))))
                go_ret
                exact ⟨rfl, below_chain (Y.out) hb1⟩
            · by_cases hep : ep = 0
              · have hej' : (ej == 0) = false := by simpa using hej
                have hel' : (el == 0) = false := by simpa using hel
                have hep' : (ep == 0) = true := by simpa using hep
                go_wp2_with (first | ((with_reducible refine (hcP.out _ _ _ _ (RP.out) (HG0.out.below Y.out) hep).mono ?_); rintro e v1 ⟨rfl, hb1⟩; clear p0 p1 q0 q1 r0 r1; obtain ⟨p0, p1, _, _⟩ := two_facts ((XJ.out.belowS hb1)); obtain ⟨q0, q1, _, _⟩ := two_facts ((XL.out.belowS hb1)); obtain ⟨r0, r1, _, _⟩ := two_facts ((XP.out.belowS hb1))))
                go_ret
                exact ⟨rfl, below_chain (Y.out) hb1⟩
              · have hej' : (ej == 0) = false := by simpa using hej
                have hel' : (el == 0) = false := by simpa using hel
                have hep' : (ep == 0) = false := by simpa using hep
                go_wp2
                go_ret
                exact ⟨rfl, Y.out⟩
  · go_wp2
    go_ret
    exact ⟨rfl, Y.out⟩
namespace hubApart
theorem hubApart_law {W : World} (a0 : Int) (b0 : Option Addr) (n0 c0 : Nat) (l0 : List RS) (w0 : HRd W b0 n0 l0) (a1 : Int) (w1 : (Lit.int .i64 a1).wf = true) (a2 : Int) (w2 : (Lit.int .i64 a2).wf = true) (a3 : Int) (w3 : (Lit.int .i64 a3).wf = true) (a4 : Int) (w4 : (Lit.int .i64 a4).wf = true) (hG : GOk W) :
    Calls Tryd.prog 4 #[.agg #[.int .i64 a0, .slice b0 n0 c0], .int .i64 a1, .int .i64 a2, .int .i64 a3, .int .i64 a4] W fun e w' => e = .returned (.bool true) ∧ Below W.heap.size W w' :=
  apart_any (a0, subs l0) b0 n0 c0 a1 a2 a3 a4 W ⟨l0, w0, rfl⟩ hG
end hubApart
end Go.Proofs.YtmepbokoopgmiaaDoor
