/-
  The law HubTells. The gap stands in its variable.
-/
import Derived.Test.YtmepbokoopgmiaaDoorHubM
import Derived.Test.YtmepbokoopgmiaaDoorRegT
import Derived.Deep.DeepCutAuto
namespace Go.Proofs.YtmepbokoopgmiaaDoor
open Go.RowKit
set_option linter.unusedSimpArgs false
set_option linter.unusedVariables false

theorem tell_zero {h HT : Hub} {room f : Int} {e : Ev} (eT : tellT h room e = (HT, f)) (hf : f ≠ 0) : HT.2.length = 0 := by
  unfold tellT at eT
  split at eT
  · split at eT
    · cases eT
      exact absurd rfl hf
    · cases eT
      rfl
  · cases eT
    rfl
theorem tell_told {h HT : Hub} {room f : Int} {e : Ev} (eT : tellT h room e = (HT, f)) (hf : f = 0) : hubMay h = true ∧ evMay e = true ∧ 1 ≤ room ∧ room ≤ 64 ∧ HT = (h.1, h.2.map (tellST room e)) := by
  have h1 := tellT_ok (h := h) (room := room) (e := e) (by rw [eT]; exact hf)
  refine ⟨h1.1, h1.2.1, h1.2.2.1, h1.2.2.2.1, ?_⟩
  have := h1.2.2.2.2
  rw [eT] at this
  exact (Prod.mk.inj this).1
/-- One subscriber and itself, told. -/
theorem told_one {s : Sub} {room : Int} {e : Ev} (h1 : itsMay s.2.2.1 = true) (h2 : evMay e = true) (h3 : 1 ≤ room) (h4 : room ≤ 64) :
    (tellST room e s).1 = s.1 ∧ (tellST room e s).2.1 = s.2.1 ∧
      ((decide ((s.2.2.1, s.2.2.2) = ((tellST room e s).2.2.1, (tellST room e s).2.2.2)) = false ∧ s.2.1 < e.1) ∨ (decide ((s.2.2.1, s.2.2.2) = ((tellST room e s).2.2.1, (tellST room e s).2.2.2)) = true ∧ s.2.1 < e.1 ∧ s.2.2.2 = true) ∨ (decide ((s.2.2.1, s.2.2.2) = ((tellST room e s).2.2.1, (tellST room e s).2.2.2)) = true ∧ ¬ s.2.1 < e.1)) := by
  unfold tellST
  by_cases hc : s.2.1 < e.1
  · rw [if_pos hc]
    refine ⟨rfl, rfl, ?_⟩
    by_cases hd : (s.2.2.1, s.2.2.2) = ((pushT s.2.2.1 s.2.2.2 room e).1, (pushT s.2.2.1 s.2.2.2 room e).2.1)
    · right
      left
      obtain ⟨e1, e2⟩ := Prod.mk.inj hd
      exact ⟨decide_eq_true hd, hc, push_changes h1 h2 h3 h4 e1.symm e2.symm⟩
    · left
      exact ⟨decide_eq_false hd, hc⟩
  · rw [if_neg hc]
    refine ⟨rfl, rfl, .inr (.inr ⟨decide_eq_true rfl, hc⟩)⟩
theorem tell_ok {room : Int} {e : Ev} (he : HdOk e.2.2) {s : Sub} (ho : ItsOk s.2.2.1) : ItsOk (tellST room e s).2.2.1 := by
  unfold tellST
  split
  · exact pushT_ok ho _ _ _ he
  · exact ho
theorem leaveT_its {h HL : Hub} {id g : Int} (e : leaveT h id = (HL, g)) (ho : ∀ s ∈ h.2, ItsOk s.2.2.1) : ∀ s ∈ HL.2, ItsOk s.2.2.1 := by
  unfold leaveT at e
  split at e
  · split at e
    · cases e
      exact fun s hs => ho s (List.mem_of_mem_eraseIdx hs)
    · cases e
      exact fun s hs => by cases hs
  · cases e
    exact fun s hs => by cases hs
/-- What is behind Leave. -/
theorem leave_facts {h HL : Hub} {id g : Int} (hm : hubMay h = true) (eL : leaveT h id = (HL, g)) : (g ≠ 0 → g = 2) ∧ (g = 0 → (pollHT HL id).2.2 = 2 ∧ ((joinT HL 16 0).2.2 = 0 → (joinT HL 16 0).2.1 ≠ id ∧ (joinT HL 16 0).2.1 = h.1)) := by
  refine ⟨fun hg => ?_, fun hg => ?_⟩
  · have := leave_err (id := id) hm (by rw [eL]; exact hg)
    rw [eL] at this
    exact this
  · have he : (leaveT h id).2 = 0 := by rw [eL]; exact hg
    have h1 := leave_poll he
    have h2 := fun hj => leave_join he (most := 16) (fr := 0) hj
    rw [eL] at h1 h2
    exact ⟨h1, h2⟩

set_option maxRecDepth 100000 in
set_option maxHeartbeats 16000000 in
theorem tells_any (h : Hub) (D : Option Addr) (m c : Nat) (id room : Int) (e : Ev) (hev : HdOk e.2.2) (w : World) (hh : HubIn w h D m) (hG : GOk w) :
    Calls Tryd.prog 5 #[.agg #[.int .i64 h.1, .slice D m c], .int .i64 id, .int .i64 room, .agg (evL e).toArray] w (GivesB w true) := by
  have hA := hid (fun W k => alive_any W k)
  have hGr := hid (fun W k => great_any h D m c W k)
  have Rh := hid hh
  have HG0 := hid hG
  have hszE := ev_sizeA e hev
  have hE0 : (evL e).toArray[0]? = some (.int .i64 e.1) := rfl
  obtain ⟨HT, f, eT⟩ : ∃ HT f, tellT h room e = (HT, f) := ⟨_, _, rfl⟩
  have hT := hid (fun W k q => tell_p hev eT D m c W k q)
  have hf0 := hid (fun hf => tell_zero eT hf)
  have hf1 := hid (fun hf => tell_told eT hf)
  clear hh hG eT
  generalize hEL : evL e = EL at *
  clear hEL
  go_enter Tryd.func5, Tryd.ntmps5
  go_wp2_with (first
    | (refine wpList_bx rfl 24 _ rfl #[.int .i64 h.1, .slice D m c] rfl ?_; intro w1 hB1 hb1 hy; clear hy)
    | (refine wpList_bx rfl 34 _ rfl EL.toArray rfl ?_; intro w2 hB2 hb2 hy; clear hy)
    | ((with_reducible refine (hA.out _ (HG0.out.below (below_chain hb1 hb2))).mono ?_); rintro e w3 ⟨rfl, hb3⟩; obtain ⟨a0, a1, a2, a3⟩ := two_facts ((hB1.belowS hb2).belowS hb3)))
  refine (hGr.out _ (Rh.out.below (below_chain (below_chain hb1 hb2) hb3))).mono ?_
  rintro e w4 ⟨b, rfl, hb4, hgr⟩
  have Y := hid (below_chain (below_chain (below_chain hb1 hb2) hb3) hb4)
  have Xh := hid (((hB1.belowS hb2).belowS hb3).belowS hb4)
  have Ze := hid ((hB2.belowS hb3).belowS hb4)
  have Rh := hid (Rh.out.below Y.out)
  clear hB1 hb1 hB2 hb2 hb3 hb4 a0 a1 a2 a3 hA hGr
  generalize w.heap.size = gh at Xh ⊢
  generalize w1.heap.size = ge at Ze ⊢
  cases b
  · obtain ⟨hm18, hl20⟩ := hgr rfl
    clear hgr
    obtain ⟨a0, a1, a2, a3⟩ := two_facts Xh.out
    obtain ⟨a0, a1, a2, a3⟩ := two_facts Xh.out
    go_upto_region 5 with (first
      | ((with_reducible refine at_load 34 ?_); refine wpList_ldr rfl 34 _ rfl ge rfl _ EL.toArray _ Ze.out Tryd.underlying34 rfl hszE ?_)
      | ((with_reducible refine (hT.out _ Rh.out (HG0.out.below Y.out)).mono ?_); rintro e v1 ⟨DT, mT, cT, rfl, hR1', hb1⟩; have hR1 := hR1'.in_)
      | ((with_reducible refine at_alloc (d := some 10) 24 ?_); refine wpList_al rfl 24 rfl _ (hub_zero _) ?_; intro v2 hB2 hb2 hy; clear hy)
      | ((with_reducible refine at_store 24 ?_); refine wpList_str rfl 24 _ _ rfl v1.heap.size _ rfl rfl _ _ hB2 rfl (hub_size _ _) (one_hub _ _ _ _) ?_; intro v4 hB4 hg4 hy; clear hy))
    have hq : Below v1.heap.size v1 v4 := hb2.grown hg4 hb2.size (by intro k e; cases e; exact Nat.le_refl _)
    have XT := hid hB4
    have RT := hid (hR1.below hq)
    have hall := below_chain hb1 hq
    have Y := hid (below_chain Y.out hall)
    have Xh := hid (Xh.out.belowS hall)
    have Rh := hid (Rh.out.below hall)
    have Ze := hid (Ze.out.belowS hall)
    clear hb1 hR1' hR1 hB2 hb2 hB4 hg4 hq hall a0 a1 a2 a3
    generalize v1.heap.size = gT at *
    generalize v4 = wT at *
    obtain ⟨a0, a1, a2, a3⟩ := two_facts Xh.out
    obtain ⟨b0, b1, b2, b3⟩ := two_facts XT.out
    by_cases hf : f = 0
    · obtain ⟨hm, hem, hr1, hr2, hHT⟩ := hf1.out hf
      subst hf
      have hmT : mT = m := by
        have h1 := RT.out.len
        have h2 := Rh.out.len
        rw [hHT] at h1
        simp only [List.length_map] at h1
        omega
      have hnT : HT.1 = h.1 := by rw [hHT]
      subst hmT
      have HHT := hid hHT
      clear hHT hf0 hf1 hT
      rw [hnT] at b0 XT ⊢
      clear hnT
      go_upto_region 10 with fail
      clear a0 a1 a2 a3 b0 b1 b2 b3
      have hu53 := Tryd.underlying53
      have hsA : (Tryd.prog.info? 53).map (·.size) = some zeroS.size := sub_size _ _ _ _
      go_loopw [12] (fun i wx => ∃ k : Nat, k ≤ mT ∧ i = .int .i64 k ∧ Below wT.heap.size wT wx) (fun i _ => mT - (intOf i).toNat)
      case atStart => exact ⟨0, Nat.zero_le _, rfl, Below.refl _ _⟩
      case round =>
        obtain ⟨k, hk, rfl, hbr⟩ := hrel
        have HBr := hid hbr
        have K1 := hid (Xh.out.belowS hbr)
        have K2 := hid (XT.out.belowS hbr)
        have Ke := hid (Ze.out.belowS hbr)
        have Q1 := hid (Rh.out.below hbr)
        have Q2 := hid (RT.out.below hbr)
        clear hbr
        obtain ⟨a0, a1, a2, a3⟩ := two_facts K1.out
        obtain ⟨b0, b1, b2, b3⟩ := two_facts K2.out
        by_cases hlt : k < mT
        · have hti : (k : Int) < (mT : Int) := by omega
          have htz : (0 : Int) ≤ (k : Int) := by omega
          obtain ⟨rs, hR, hS⟩ := Q1.out
          obtain ⟨ts, hR2, hS2⟩ := Q2.out
          have hx : rs[k]? = some (rs[k]'(by have := hR.len; omega)) := List.getElem?_eq_getElem _
          have hy : ts[k]? = some (ts[k]'(by have := hR2.len; omega)) := List.getElem?_eq_getElem _
          generalize rs[k]'(by have := hR.len; omega) = r at hx
          generalize ts[k]'(by have := hR2.len; omega) = t at hy
          have hsx : h.2[k]? = some r.1 := by rw [← hS]; simp [subs, hx]
          have hsy : HT.2[k]? = some t.1 := by rw [← hS2]; simp [subs, hy]
          have hty : t.1 = tellST room e r.1 := by
            rw [HHT.out] at hsy
            simp only [List.getElem?_map, hsx, Option.map_some, Option.some.injEq] at hsy
            exact hsy.symm
          have hrm := (subsMay_lt (hubMay_parts hm).2.2 r.1 (List.mem_of_getElem? hsx)).2.2.2
          have htold := told_one hrm hem hr1 hr2
          rw [← hty] at htold
          obtain ⟨ht1, ht2, htc⟩ := htold
          obtain ⟨b1', o1, hD1, _, rx⟩ := hR.at_ hx
          obtain ⟨b2', o2, hD2, _, ry⟩ := hR2.at_ hy
          have ra := hid (hR.2 r (List.mem_of_getElem? hx))
          have rb := hid (hR2.2 t (List.mem_of_getElem? hy))
          have hrl := hl20 r.1 (List.mem_of_getElem? hsx)
          have hrn : r.2.2.1 ≤ 1000 := by have := ra.out.len; omega
          clear hx hy hsx hsy hty hR hR2 hS hS2 hrm
          subst hD1 hD2
          obtain ⟨ad1, had1⟩ : ∃ ad, o1 + k * 4 = ad := ⟨_, rfl⟩
          obtain ⟨ad2, had2⟩ : ∃ ad, o2 + k * 4 = ad := ⟨_, rfl⟩
          rw [had1] at rx
          rw [had2] at ry
          have hszr := rs_size r
          have hszt := rs_size t
          have hSm := hid (fun W (q1 : SubAt W r) (q2 : SubAt W t) => same_any r.2.1 t.2.1 r.2.2.1 t.2.2.1 r.2.2.2 t.2.2.2 r.1.2.2.2 t.1.2.2.2 r.1.2.2.1 t.1.2.2.1 q1.1 q2.1 W q1.2 q2.2 hrn)
          have Htc := hid htc
          clear htc hrl
          obtain ⟨⟨rid, rfr, rit, rlo⟩, rA, rn, rc⟩ := r
          obtain ⟨⟨tid, tfr, tit, tlo⟩, tA, tn, tc⟩ := t
          simp only at ht1 ht2 hSm Htc
          subst ht1 ht2
          have hX0 : (rsL ((tid, tfr, rit, rlo), rA, rn, rc)).toArray.size = zeroS.size := rfl
          have hX1 : (rsL ((tid, tfr, tit, tlo), tA, tn, tc)).toArray.size = zeroS.size := rfl
          have hXo : ∀ v ∈ (rsL ((tid, tfr, rit, rlo), rA, rn, rc)).toArray, v.oneCell' = true := fun v hv => rsL_one _ v (by simpa using hv)
          have hXp : ∀ v ∈ (rsL ((tid, tfr, tit, tlo), tA, tn, tc)).toArray, v.oneCell' = true := fun v hv => rsL_one _ v (by simpa using hv)
          have hf1' := hid (fun (g : Nat) (w' : World) (hB : Blk w' g 53 (rsL ((tid, tfr, rit, rlo), rA, rn, rc)).toArray) => (⟨hB.cellv (i := 0) rfl, hB.cellv (i := 1) rfl, hB.cellv (i := 2) rfl, hB.cellv (i := 3) rfl⟩ : w'.cell? ⟨g, 0, none⟩ = some (.int .i64 tid) ∧ w'.cell? ⟨g, 1, none⟩ = some (.int .i64 tfr) ∧ w'.cell? ⟨g, 2, none⟩ = some (.slice rA rn rc) ∧ w'.cell? ⟨g, 3, none⟩ = some (.bool rlo)))
          have hf2' := hid (fun (g : Nat) (w' : World) (hB : Blk w' g 53 (rsL ((tid, tfr, tit, tlo), tA, tn, tc)).toArray) => (⟨hB.cellv (i := 0) rfl, hB.cellv (i := 1) rfl, hB.cellv (i := 2) rfl, hB.cellv (i := 3) rfl⟩ : w'.cell? ⟨g, 0, none⟩ = some (.int .i64 tid) ∧ w'.cell? ⟨g, 1, none⟩ = some (.int .i64 tfr) ∧ w'.cell? ⟨g, 2, none⟩ = some (.slice tA tn tc) ∧ w'.cell? ⟨g, 3, none⟩ = some (.bool tlo)))
          generalize rsL ((tid, tfr, rit, rlo), rA, rn, rc) = RL at *
          generalize rsL ((tid, tfr, tit, tlo), tA, tn, tc) = TL at *
          have hold : Hid (∀ w', Below wr.heap.size wr w' → w'.cell? ⟨gh, 1, none⟩ = some (.slice (some ⟨b1', o1, none⟩) mT c) ∧ w'.cell? ⟨gT, 1, none⟩ = some (.slice (some ⟨b2', o2, none⟩) mT cT) ∧ w'.rangeAt b1' ad1 RL ∧ w'.rangeAt b2' ad2 TL) := hid fun w' hb => ⟨(K1.out.belowS hb).cellv rfl, (K2.out.belowS hb).cellv rfl, range_below rx hb, range_below ry hb⟩
          go_upto_region 12 with fail
          go_cut [13, 14] (fun pa pb wx => ∃ ga gb, pa = .pointer (some ⟨ga, 0, none⟩) ∧ pb = .pointer (some ⟨gb, 0, none⟩) ∧ Blk wx ga 53 RL.toArray ∧ Blk wx gb 53 TL.toArray ∧ Below wr.heap.size wr wx)
          case first =>
            refine wp_region_held_drew (S := (fun w' => w'.cell? ⟨gh, 1, none⟩ = some (.slice (some ⟨b1', o1, none⟩) mT c) ∧ w'.cell? ⟨gT, 1, none⟩ = some (.slice (some ⟨b2', o2, none⟩) mT cT) ∧ w'.rangeAt b1' ad1 RL ∧ w'.rangeAt b2' ad2 TL)) (by kernel_rfl) (hold.out _ (below_self_drew wr)) (fun hHeld => ?_)
            refine reg_take (v := ?_) 0 rfl (by kernel_rfl) (by kernel_rfl) (by kernel_rfl) (fun _ _ _ h => h) (Or.inl ⟨by rfl, ?_⟩) (by assumption) ?_; rotate_left; (intro w hSw; (try dsimp only at hSw); go_simp); (try with_reducible rfl); (try simp only [Act.put, List.setIfInBounds_toArray, List.set_cons_zero, List.set_cons_succ])
            refine reg_take (v := ?_) 1 rfl (by kernel_rfl) (by kernel_rfl) (by kernel_rfl) (fun _ _ _ h => h) (Or.inl ⟨by rfl, ?_⟩) (by assumption) ?_; rotate_left; (intro w hSw; (try dsimp only at hSw); go_simp); (try with_reducible rfl); (try simp only [Act.put, List.setIfInBounds_toArray, List.set_cons_zero, List.set_cons_succ])
            refine reg_take (v := ?_) 2 rfl (by kernel_rfl) (by kernel_rfl) (by kernel_rfl) (fun _ _ _ h => h) (Or.inl ⟨by rfl, ?_⟩) (by assumption) ?_; rotate_left; (intro w hSw; (try dsimp only at hSw); go_simp); (try with_reducible rfl); (try simp only [Act.put, List.setIfInBounds_toArray, List.set_cons_zero, List.set_cons_succ])
            refine reg_take (v := ?_) 3 rfl (by kernel_rfl) (by kernel_rfl) (by kernel_rfl) (fun _ _ _ h => h) (Or.inl ⟨by rfl, ?_⟩) (by assumption) ?_; rotate_left; (intro w hSw; (try dsimp only at hSw); go_simp); (try with_reducible rfl); (try simp only [Act.put, List.setIfInBounds_toArray, List.set_cons_zero, List.set_cons_succ])
            refine reg_take 4 rfl (by kernel_rfl) (by kernel_rfl) (by kernel_rfl) (fun _ _ _ h => h) (yieldsIf_load_mid (by rfl) _ _ rfl _ _ rfl _ _ (by intro w hSw; (try dsimp only at hSw); go_split_ands; assumption) (by assumption) (by rfl) (by assumption)) (by assumption) ?_; (try simp only [Act.put, List.setIfInBounds_toArray, List.set_cons_zero, List.set_cons_succ])
            refine reg_take (v := ?_) 5 rfl (by kernel_rfl) (by kernel_rfl) (by kernel_rfl) (fun _ _ _ h => h) (Or.inl ⟨by rfl, ?_⟩) (by assumption) ?_; rotate_left; (intro w hSw; (try dsimp only at hSw); go_simp); (try with_reducible rfl); (try simp only [Act.put, List.setIfInBounds_toArray, List.set_cons_zero, List.set_cons_succ])
            refine reg_take (v := ?_) 6 rfl (by kernel_rfl) (by kernel_rfl) (by kernel_rfl) (fun _ _ _ h => h) (Or.inl ⟨by rfl, ?_⟩) (by assumption) ?_; rotate_left; (intro w hSw; (try dsimp only at hSw); go_simp); (try with_reducible rfl); (try simp only [Act.put, List.setIfInBounds_toArray, List.set_cons_zero, List.set_cons_succ])
            refine reg_take (v := ?_) 7 rfl (by kernel_rfl) (by kernel_rfl) (by kernel_rfl) (fun _ _ _ h => h) (Or.inl ⟨by rfl, ?_⟩) (by assumption) ?_; rotate_left; (intro w hSw; (try dsimp only at hSw); go_simp); (try with_reducible rfl); (try simp only [Act.put, List.setIfInBounds_toArray, List.set_cons_zero, List.set_cons_succ])
            refine reg_take (v := ?_) 8 rfl (by kernel_rfl) (by kernel_rfl) (by kernel_rfl) (fun _ _ _ h => h) (Or.inl ⟨by rfl, ?_⟩) (by assumption) ?_; rotate_left; (intro w hSw; (try dsimp only at hSw); go_simp); (try with_reducible rfl); (try simp only [Act.put, List.setIfInBounds_toArray, List.set_cons_zero, List.set_cons_succ])
            refine reg_take 9 rfl (by kernel_rfl) (by kernel_rfl) (by kernel_rfl) (fun _ _ _ h => h) (yieldsIf_load_mid (by rfl) _ _ rfl _ _ rfl _ _ (by intro w hSw; (try dsimp only at hSw); go_split_ands; assumption) (by assumption) (by rfl) (by assumption)) (by assumption) ?_; (try simp only [Act.put, List.setIfInBounds_toArray, List.set_cons_zero, List.set_cons_succ])
            refine reg_two 10 11 rfl rfl (by kernel_rfl) (fun K hK => ?_) (fun K hK => ?_)
            · refine step_al rfl 53 rfl zeroS (zeroS_run _) ?_; intro va hBva hbva hy; clear hy; have q1 := below_chain (below_self_drew wr) hbva; refine hK.out _ _ (hold.out _ q1) (fun hHeld => ?_); clear hK K; (try simp only [Act.put, List.setIfInBounds_toArray, List.set_cons_zero, List.set_cons_succ])
              refine reg_only 11 rfl (by kernel_rfl) (fun K hK => ?_); refine step_al rfl 53 rfl zeroS (zeroS_run _) ?_; intro vb hBvb hbvb hy; clear hy; have q2 := below_chain q1 hbvb; refine hK.out _ _ (hold.out _ q2) (fun hHeld => ?_); clear hK K; (try simp only [Act.put, List.setIfInBounds_toArray, List.set_cons_zero, List.set_cons_succ])
              have hdw : wr.drew.heap.size = wr.heap.size := rfl
              have hl1 := hBva.lt
              refine reg_only 12 rfl (by kernel_rfl) (fun K hK => ?_); refine step_str rfl 53 _ _ rfl wr.drew.heap.size RL.toArray rfl rfl _ _ (hBva.belowS hbvb) hX0 hsA hXo ?_; intro vc hBvc hgvc hy; clear hy; have q3 := below_set q2 hgvc (by have := q1.size; omega); refine hK.out _ _ (hold.out _ q3) (fun hHeld => ?_); clear hK K; (try simp only [Act.put, List.setIfInBounds_toArray, List.set_cons_zero, List.set_cons_succ])
              refine reg_only 13 rfl (by kernel_rfl) (fun K hK => ?_); refine step_str rfl 53 _ _ rfl va.heap.size TL.toArray rfl rfl _ _ (hBvb.grown hgvc (fun e => by have := Option.some.inj e; omega)) hX1 hsA hXp ?_; intro vd hBvd hgvd hy; clear hy; have q4 := below_set q3 hgvd (by have := q1.size; omega); refine hK.out _ _ (hold.out _ q4) (fun hHeld => ?_); clear hK K; (try simp only [Act.put, List.setIfInBounds_toArray, List.set_cons_zero, List.set_cons_succ])
              refine wpAnyH_done (by kernel_rfl) ?_ _
              go_wp2_with fail
              go_meet
              exact ⟨_, _, rfl, rfl, hBvc.grown hgvd (fun e => by have := Option.some.inj e; omega), hBvd, q4⟩
            · refine step_al rfl 53 rfl zeroS (zeroS_run _) ?_; intro vb hBvb hbvb hy; clear hy; have q1 := below_chain (below_self_drew wr) hbvb; refine hK.out _ _ (hold.out _ q1) (fun hHeld => ?_); clear hK K; (try simp only [Act.put, List.setIfInBounds_toArray, List.set_cons_zero, List.set_cons_succ])
              refine reg_only 10 rfl (by kernel_rfl) (fun K hK => ?_); refine step_al rfl 53 rfl zeroS (zeroS_run _) ?_; intro va hBva hbva hy; clear hy; have q2 := below_chain q1 hbva; refine hK.out _ _ (hold.out _ q2) (fun hHeld => ?_); clear hK K; (try simp only [Act.put, List.setIfInBounds_toArray, List.set_cons_zero, List.set_cons_succ])
              have hdw : wr.drew.heap.size = wr.heap.size := rfl
              have hl1 := hBvb.lt
              refine reg_only 12 rfl (by kernel_rfl) (fun K hK => ?_); refine step_str rfl 53 _ _ rfl vb.heap.size RL.toArray rfl rfl _ _ hBva hX0 hsA hXo ?_; intro vc hBvc hgvc hy; clear hy; have q3 := below_set q2 hgvc (by have := q1.size; omega); refine hK.out _ _ (hold.out _ q3) (fun hHeld => ?_); clear hK K; (try simp only [Act.put, List.setIfInBounds_toArray, List.set_cons_zero, List.set_cons_succ])
              refine reg_only 13 rfl (by kernel_rfl) (fun K hK => ?_); refine step_str rfl 53 _ _ rfl wr.drew.heap.size TL.toArray rfl rfl _ _ ((hBvb.belowS hbva).grown hgvc (fun e => by have := Option.some.inj e; omega)) hX1 hsA hXp ?_; intro vd hBvd hgvd hy; clear hy; have q4 := below_set q3 hgvd (by have := q1.size; omega); refine hK.out _ _ (hold.out _ q4) (fun hHeld => ?_); clear hK K; (try simp only [Act.put, List.setIfInBounds_toArray, List.set_cons_zero, List.set_cons_succ])
              refine wpAnyH_done (by kernel_rfl) ?_ _
              go_wp2_with fail
              go_meet
              exact ⟨_, _, rfl, rfl, hBvc.grown hgvd (fun e => by have := Option.some.inj e; omega), hBvd, q4⟩
          obtain ⟨ga, gb, rfl, rfl, hBa, hBb, hbw⟩ := hcut
          have Za := hid hBa
          have Zb := hid hBb
          have Hbw := hid hbw
          have ce := hid ((Ke.out.belowS hbw).cellv hE0)
          have sa := hid (ra.out.below hbw)
          have sb := hid (rb.out.below hbw)
          obtain ⟨e0, e1, e2, e3⟩ := hf1'.out _ _ hBa
          obtain ⟨f0, f1, f2, f3⟩ := hf2'.out _ _ hBb
          clear hBa hBb hbw a0 a1 a2 a3 b0 b1 b2 b3 rx ry hold K1 K2 ra rb Q1 Q2
          go_wp2_with fail
          refine (hSm.out _ sa.out sb.out).mono ?_
          rintro e' wq ⟨rfl, hbq⟩
          have Hend := hid (show Below wT.heap.size wT wq from HBr.out.trans ((Hbw.out.trans (hbq.mono Hbw.out.size)).mono HBr.out.size))
          clear e0 e1 e2 e3 f0 f1 f2 f3
          obtain ⟨e0, e1, e2, e3⟩ := hf1'.out _ _ (Za.out.belowS hbq)
          obtain ⟨f0, f1, f2, f3⟩ := hf2'.out _ _ (Zb.out.belowS hbq)
          have ce' := ((Ke.out.belowS Hbw.out).belowS hbq).cellv hE0
          clear hbq hSm Za Zb Hbw sa sb ce
          rcases Htc.out with ⟨hq, hc⟩ | ⟨hq, hc, hlo⟩ | ⟨hq, hc⟩
          · rw [hq]
            clear hq
            go_wp2_with fail
            exact ⟨⟨k + 1, by omega, by go_num, Hend.out⟩, by simp [intOf]; omega⟩
          · rw [hq]
            clear hq
            subst hlo
            go_wp2_with fail
            exact ⟨⟨k + 1, by omega, by go_num, Hend.out⟩, by simp [intOf]; omega⟩
          · rw [hq]
            clear hq
            go_wp2_with fail
            exact ⟨⟨k + 1, by omega, by go_num, Hend.out⟩, by simp [intOf]; omega⟩
        · obtain rfl : k = mT := by omega
          have hti : ¬ (k : Int) < (k : Int) := by omega
          have Y := hid (below_chain Y.out HBr.out)
          have Xh := hid K1.out
          have Rh := hid Q1.out
          clear HBr Ke Q2 K2 K1 Q1 XT RT Ze HHT b0 b1 b2 b3
          obtain ⟨HL, g, eL⟩ : ∃ HL g, leaveT h id = (HL, g) := ⟨_, _, rfl⟩
          obtain ⟨HP, xp, p, eP⟩ : ∃ HP xp p, pollHT HL id = (HP, xp, p) := ⟨_, _, _, rfl⟩
          obtain ⟨HJ, nj, q, eJ⟩ : ∃ HJ nj q, joinT HL 16 0 = (HJ, nj, q) := ⟨_, _, _, rfl⟩
          have lf := leave_facts hm eL
          rw [eP, eJ] at lf
          simp only at lf
          have Lf := hid lf
          have hL := hid (fun W q1 q2 => leave_p eL D k c W q1 q2)
          have hP := hid (fun D m c W k q => poll_p eP D m c W k q)
          have hJ := hid (fun D m c W k q => join_p eJ D m c W k q)
          have hits := hid (leaveT_its eL Rh.out.its)
          have oxp : ItOk xp := by
            have := pollHT_itok hits.out id
            rw [eP] at this
            exact this
          have hsX := item_sz oxp
          have hoX := hid (it_one xp)
          have hsZ := it_sizeA zeroIt zeroIt_ok
          have hzr : Hid (∀ W, (zeroValue 36).run Tryd.prog W = .ok (.agg (itL zeroIt).toArray) W) := hid zeroI_run
          clear lf eL eP eJ oxp hits
          generalize hZL : (itL zeroIt).toArray = Z at *
          clear hZL
          generalize hXL : (itL xp).toArray = XP at *
          clear hXL
          obtain ⟨a0, a1, a2, a3⟩ := two_facts Xh.out
          go_upto_region 17 with (first
            | ((with_reducible refine (hL.out _ Rh.out (HG0.out.below Y.out)).mono ?_); rintro e v1 ⟨DL, mL, cL, rfl, hR1', hb1⟩; have hR1 := hR1'.in_)
            | ((with_reducible refine at_alloc (d := some 16) 24 ?_); refine wpList_al rfl 24 rfl _ (hub_zero _) ?_; intro v2 hB2 hb2 hy; clear hy)
            | ((with_reducible refine at_store 24 ?_); refine wpList_str rfl 24 _ _ rfl v1.heap.size _ rfl rfl _ _ hB2 rfl (hub_size _ _) (one_hub _ _ _ _) ?_; intro v4 hB4 hg4 hy; clear hy))
          have hq : Below v1.heap.size v1 v4 := hb2.grown hg4 hb2.size (by intro k e; cases e; exact Nat.le_refl _)
          have XL := hid hB4
          have RL := hid (hR1.below hq)
          have hall := below_chain hb1 hq
          have Y := hid (below_chain Y.out hall)
          have Xh := hid (Xh.out.belowS hall)
          have Rh := hid (Rh.out.below hall)
          clear hb1 hR1' hR1 hB2 hb2 hB4 hg4 hq hall a0 a1 a2 a3
          generalize v1.heap.size = gL at *
          generalize v4 = wL at *
          by_cases hg : g = 0
          · obtain ⟨f1, f2⟩ := Lf.out.2 hg
            subst hg
            subst f1
            have F2 := hid f2
            clear Lf f2
            obtain ⟨a0, a1, a2, a3⟩ := two_facts XL.out
            go_upto_region 20 with (first
              | ((with_reducible refine (hP.out _ _ _ _ RL.out (HG0.out.below Y.out)).mono ?_); rintro e v1 ⟨DP, mP, cP, rfl, hR1', hb1⟩; have hR1 := hR1'.in_)
              | ((with_reducible refine at_alloc (d := some 18) 24 ?_); refine wpList_al rfl 24 rfl _ (hub_zero _) ?_; intro v2 hB2 hb2 hy; clear hy)
              | ((with_reducible refine at_alloc (d := some 19) 36 ?_); refine wpList_al rfl 36 rfl _ (hzr.out _) ?_; intro v3 hB3 hb3 hy; clear hy; have l23 := hB2.lt)
              | ((with_reducible refine at_store 24 ?_); refine wpList_str rfl 24 _ _ rfl v1.heap.size _ rfl rfl _ _ (hB2.belowS hb3) rfl (hub_size _ _) (one_hub _ _ _ _) ?_; intro v4 hB4 hg4 hy; clear hy)
              | ((with_reducible refine at_store 36 ?_); refine wpList_str rfl 36 _ _ rfl v2.heap.size XP rfl rfl _ _ (hB3.grown hg4 (fun e => by have := Option.some.inj e; omega)) hsX hsZ hoX.out ?_; intro v5 hB5 hg5 hy; clear hy))
            have hq2 := below_chain hb2 hb3
            have hq4 : Below v1.heap.size v1 v4 := hq2.grown hg4 hq2.size (by intro k e; cases e; exact Nat.le_refl _)
            have hq : Below v1.heap.size v1 v5 := hq4.grown hg5 hq4.size (by intro k e; cases e; exact hb2.size)
            have XP := hid (hB4.grown hg5 (fun e => by have := Option.some.inj e; omega))
            have ZP := hid hB5
            have RP := hid (hR1.below hq)
            have hall := below_chain hb1 hq
            have Y := hid (below_chain Y.out hall)
            have Xh := hid (Xh.out.belowS hall)
            have Rh := hid (Rh.out.below hall)
            have XL := hid (XL.out.belowS hall)
            have RL := hid (RL.out.below hall)
            clear hb1 hR1' hR1 hB2 hb2 hB4 hg4 hq hall hB3 hb3 l23 hq2 hq4 hB5 hg5 a0 a1 a2 a3
            generalize v1.heap.size = gP at *
            generalize v2.heap.size = giP at *
            generalize v5 = wP at *
            obtain ⟨a0, a1, a2, a3⟩ := two_facts XL.out
            go_upto_region 21 with (first
              | ((with_reducible refine (hJ.out _ _ _ _ RL.out (HG0.out.below Y.out)).mono ?_); rintro e v1 ⟨DJ, mJ, cJ, rfl, hR1', hb1⟩; have hR1 := hR1'.in_)
              | ((with_reducible refine at_alloc (d := some 21) 24 ?_); refine wpList_al rfl 24 rfl _ (hub_zero _) ?_; intro v2 hB2 hb2 hy; clear hy)
              | ((with_reducible refine at_store 24 ?_); refine wpList_str rfl 24 _ _ rfl v1.heap.size _ rfl rfl _ _ hB2 rfl (hub_size _ _) (one_hub _ _ _ _) ?_; intro v4 hB4 hg4 hy; clear hy))
            have hq : Below v1.heap.size v1 v4 := hb2.grown hg4 hb2.size (by intro k e; cases e; exact Nat.le_refl _)
            have XJ := hid hB4
            have RJ := hid (hR1.below hq)
            have hall := below_chain hb1 hq
            have Y := hid (below_chain Y.out hall)
            have Xh := hid (Xh.out.belowS hall)
            have Rh := hid (Rh.out.below hall)
            have XL := hid (XL.out.belowS hall)
            have RL := hid (RL.out.below hall)
            have XP := hid (XP.out.belowS hall)
            have RP := hid (RP.out.below hall)
            have ZP := hid (ZP.out.belowS hall)
            clear hb1 hR1' hR1 hB2 hb2 hB4 hg4 hq hall a0 a1 a2 a3
            generalize v1.heap.size = gJ at *
            generalize v4 = wJ at *
            obtain ⟨a0, a1, a2, a3⟩ := two_facts Xh.out
            by_cases hq : q = 0
            · obtain ⟨n1, n2⟩ := F2.out hq
              subst hq
              have hn : ¬ nj = id := n1
              have hn' : (nj == id) = false := by simpa using n1
              have hn2 : (nj != id) = true := by simpa using n1
              have hge : h.1 ≤ nj := by omega
              clear F2 n1 n2
              go_wp2
              go_ret
              exact ⟨rfl, Y.out⟩
            · have hq' : (q == 0) = false := by simpa using hq
              have hq2 : (q != 0) = true := by simpa using hq
              go_wp2
              go_ret
              exact ⟨rfl, Y.out⟩
          · have hg2 := Lf.out.1 hg
            subst hg2
            go_wp2
            go_ret
            exact ⟨rfl, Y.out⟩
    · have hf' : (f == 0) = false := by simpa using hf
      have hmT : mT = 0 := by have h1 := RT.out.len; have h2 := hf0.out hf; omega
      subst hmT
      go_wp2
      go_ret
      exact ⟨rfl, Y.out⟩
  · go_wp2
    go_ret
    exact ⟨rfl, Y.out⟩
namespace hubTells
theorem hubTells_law {W : World} (a0 : Int) (b0 : Option Addr) (n0 c0 : Nat) (l0 : List RS) (w0 : HRd W b0 n0 l0) (a1 : Int) (w1 : (Lit.int .i64 a1).wf = true) (a2 : Int) (w2 : (Lit.int .i64 a2).wf = true) (a3 : Ev) (w3 : HdOk a3.2.2) (hG : GOk W) :
    Calls Tryd.prog 5 #[.agg #[.int .i64 a0, .slice b0 n0 c0], .int .i64 a1, .int .i64 a2, .agg (evL a3).toArray] W fun e w' => e = .returned (.bool true) ∧ Below W.heap.size W w' :=
  tells_any (a0, subs l0) b0 n0 c0 a1 a2 a3 w3 W ⟨l0, w0, rfl⟩ hG
end hubTells
end Go.Proofs.YtmepbokoopgmiaaDoor
