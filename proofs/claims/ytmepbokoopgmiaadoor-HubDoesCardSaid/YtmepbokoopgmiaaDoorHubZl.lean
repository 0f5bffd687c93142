/-
  The law HubDoes walked. The gap stands in its variable.
-/
import Derived.Test.YtmepbokoopgmiaaDoorHubZk
import Derived.Test.YtmepbokoopgmiaaDoorHubO
namespace Go.Proofs.YtmepbokoopgmiaaDoor
open Go.RowKit
set_option linter.unusedSimpArgs false
set_option linter.unusedVariables false

/-- What a hub lets grow. -/
def Small (h : Hub) : Prop := h.2.length ≤ 1000 ∧ ∀ s ∈ h.2, s.2.2.1.length ≤ 1000
theorem small_zero : Small zeroHub := ⟨by decide, fun s hs => by cases hs⟩
theorem small_may {h : Hub} (hm : hubMay h = true) : Small h := ⟨by have := (hubMay_parts hm).2.1; omega, hubMay_its1 hm⟩
theorem joinT_small (h : Hub) (most fr : Int) : Small (joinT h most fr).1 := by
  unfold joinT
  split
  · next hm =>
    have := small_may hm
    have hl := (hubMay_parts hm).2.1
    split
    · split
      · refine ⟨by simp; omega, fun s hs => ?_⟩
        rcases List.mem_append.1 hs with hs | hs
        · exact this.2 s hs
        · simp only [List.mem_singleton] at hs
          subst hs
          simp
      · exact small_zero
    · exact small_zero
  · exact small_zero
theorem leaveT_small (h : Hub) (id : Int) : Small (leaveT h id).1 := by
  unfold leaveT
  split
  · next hm =>
    have := small_may hm
    split
    · exact ⟨by have := List.length_eraseIdx_le h.2 (place id h.2); have := this; show (h.2.eraseIdx _).length ≤ 1000; have := (small_may hm).1; omega, fun s hs => this.2 s (List.mem_of_mem_eraseIdx hs)⟩
    · exact small_zero
  · exact small_zero
theorem pollHT_small (h : Hub) (id : Int) : Small (pollHT h id).1 := by
  unfold pollHT
  split
  · next hm =>
    have := small_may hm
    split
    · split
      · refine ⟨by simp; exact this.1, fun s hs => ?_⟩
        rcases List.mem_or_eq_of_mem_set hs with hs | rfl
        · exact this.2 s hs
        · rename_i t _ _
          exact Nat.le_trans (pollT_len t.2.2.1 t.2.2.2) (by omega)
      · exact small_zero
    · exact small_zero
  · exact small_zero
theorem tellT_small (h : Hub) (room : Int) (e : Ev) : Small (tellT h room e).1 := by
  unfold tellT
  split
  · next hm =>
    have := small_may hm
    split
    · refine ⟨by simp; exact this.1, fun s hs => ?_⟩
      obtain ⟨t, ht, rfl⟩ := List.mem_map.1 hs
      unfold tellST
      split
      · exact Nat.le_trans (pushT_len t.2.2.1 t.2.2.2 room e) (by omega)
      · exact this.2 t ht
    · exact small_zero
  · exact small_zero
/-- A hub answered: it lies in memory from lo on, and may be written over. -/
def HubSp (w : World) (lo hi : Nat) (h : Hub) (D : Option Addr) (m : Nat) : Prop := HubIn w h D m ∧ ∃ rs, Sp w lo hi D rs ∧ rs.length = m ∧ ∀ r ∈ rs, r.2.2.1 = r.1.2.2.1.length ∧ r.1 ∈ h.2
section
variable {w w' : World} {lo hi m c : Nat} {h : Hub} {D : Option Addr}
theorem HOwn.hubSp {rs : List RS} (hO : HOwn w lo D m c rs) (hs : subs rs = h.2) : HubSp w lo w.heap.size h D m :=
  ⟨⟨rs, hO.rd, hs⟩, rs, hO.sp, hO.len, fun r hr => ⟨((hO.2 r hr).at_.len).symm, by rw [← hs]; exact List.mem_map_of_mem hr⟩⟩
theorem HubOn.hubSp (hO : HubOn w lo h D m c) : HubSp w lo w.heap.size h D m := by
  obtain ⟨rs, h1, h2⟩ := hO
  exact h1.hubSp h2
theorem HubSp.below (hS : HubSp w lo hi h D m) (hb : Below w.heap.size w w') : HubSp w' lo hi h D m := by
  obtain ⟨h1, rs, h2, h3⟩ := hS
  exact ⟨h1.below hb, rs, h2.below hb, h3⟩
theorem HubSp.spoil (hS : HubSp w lo hi h D m) (hsm : Small h) (c : Nat) (hhi : hi ≤ w.heap.size) :
    Calls Tryd.prog 26 #[.agg #[.int .i64 h.1, .slice D m c]] w fun e w' => (∃ v, e = .returned v) ∧ Chg w w' (fun b => lo ≤ b ∧ b < hi) := by
  obtain ⟨h1, rs, h2, h3, h4⟩ := hS
  refine spoil24_any h.1 D m c lo hi rs w h2 hhi h3 (by have := h1.len; have := hsm.1; omega) (fun r hr => ?_)
  have := (h4 r hr).1
  have := hsm.2 r.1 (h4 r hr).2
  omega
theorem HubSp.chg {bad : Nat → Prop} (hS : HubSp w lo hi h D m) (hc : Chg w w' bad) (hb : ∀ b, lo ≤ b → ¬ bad b) : ∃ rs, Sp w' lo hi D rs ∧ rs.length = m ∧ ∀ r ∈ rs, r.2.2.1 = r.1.2.2.1.length ∧ r.1 ∈ h.2 := by
  obtain ⟨h1, rs, h2, h3⟩ := hS
  exact ⟨rs, h2.chg hc hb, h3⟩
end
theorem spoil_sp {w : World} {lo hi m : Nat} {h : Hub} {D : Option Addr} (hS : ∃ rs, Sp w lo hi D rs ∧ rs.length = m ∧ ∀ r ∈ rs, r.2.2.1 = r.1.2.2.1.length ∧ r.1 ∈ h.2) (hsm : Small h) (hm : m ≤ 1000) (c : Nat) (hhi : hi ≤ w.heap.size) :
    Calls Tryd.prog 26 #[.agg #[.int .i64 h.1, .slice D m c]] w fun e w' => (∃ v, e = .returned v) ∧ Chg w w' (fun b => lo ≤ b ∧ b < hi) := by
  obtain ⟨rs, h2, h3, h4⟩ := hS
  refine spoil24_any h.1 D m c lo hi rs w h2 hhi h3 hm (fun r hr => ?_)
  have := (h4 r hr).1
  have := hsm.2 r.1 (h4 r hr).2
  omega
theorem join24_p {h : Hub} {most fr : Int} (r : Hub × Int × Int) (hr : joinT h most fr = r) (D : Option Addr) (m c : Nat) (w : World) (hh : HubIn w h D m) :
    Calls Tryd.prog 18 #[.agg #[.int .i64 h.1, .slice D m c], .int .i64 most, .int .i64 fr] w fun e w' => ∃ D' m' c', e = .returned (.tuple #[.agg #[.int .i64 r.1.1, .slice D' m' c'], .int .i64 r.2.1, .int .i64 r.2.2]) ∧ HubOn w' w.heap.size r.1 D' m' c' ∧ Below w.heap.size w w' := by
  subst hr
  exact (join24_any h D m c most fr w hh).mono fun e w' ⟨D', m', c', rs', he, hs, hO, hb⟩ => ⟨D', m', c', he, ⟨rs', hO, hs⟩, hb⟩
theorem leave24_p {h : Hub} {id : Int} (r : Hub × Int) (hr : leaveT h id = r) (D : Option Addr) (m c : Nat) (w : World) (hh : HubIn w h D m) :
    Calls Tryd.prog 19 #[.agg #[.int .i64 h.1, .slice D m c], .int .i64 id] w fun e w' => ∃ D' m' c', e = .returned (.tuple #[.agg #[.int .i64 r.1.1, .slice D' m' c'], .int .i64 r.2]) ∧ HubOn w' w.heap.size r.1 D' m' c' ∧ Below w.heap.size w w' := by
  subst hr
  exact (leave24_any h D m c id w hh).mono fun e w' ⟨D', m', c', rs', he, hs, hO, hb⟩ => ⟨D', m', c', he, ⟨rs', hO, hs⟩, hb⟩
theorem poll24_p {h : Hub} {id : Int} (r : Hub × It × Int) (hr : pollHT h id = r) (D : Option Addr) (m c : Nat) (w : World) (hh : HubIn w h D m) :
    Calls Tryd.prog 20 #[.agg #[.int .i64 h.1, .slice D m c], .int .i64 id] w fun e w' => ∃ D' m' c', e = .returned (.tuple #[.agg #[.int .i64 r.1.1, .slice D' m' c'], .agg (itL r.2.1).toArray, .int .i64 r.2.2]) ∧ HubOn w' w.heap.size r.1 D' m' c' ∧ Below w.heap.size w w' := by
  subst hr
  exact (poll24_any h D m c id w hh).mono fun e w' ⟨D', m', c', rs', he, hs, hO, hb⟩ => ⟨D', m', c', he, ⟨rs', hO, hs⟩, hb⟩
theorem tell24_p {h : Hub} {room : Int} {ev : Ev} (hev : HdOk ev.2.2) (r : Hub × Int) (hr : tellT h room ev = r) (D : Option Addr) (m c : Nat) (w : World) (hh : HubIn w h D m) :
    Calls Tryd.prog 21 #[.agg #[.int .i64 h.1, .slice D m c], .int .i64 room, .agg (evL ev).toArray] w fun e w' => ∃ D' m' c', e = .returned (.tuple #[.agg #[.int .i64 r.1.1, .slice D' m' c'], .int .i64 r.2]) ∧ HubOn w' w.heap.size r.1 D' m' c' ∧ Below w.heap.size w w' := by
  subst hr
  exact (tell24_any h D m c room ev hev w hh).mono fun e w' ⟨D', m', c', rs', he, hs, hO, hb⟩ => ⟨D', m', c', he, ⟨rs', hO, hs⟩, hb⟩
theorem twin24_p (h : Hub) (D : Option Addr) (m c : Nat) (w : World) (hh : HubIn w h D m) (hsm : Small h) :
    Calls Tryd.prog 17 #[.agg #[.int .i64 h.1, .slice D m c]] w fun e w' => ∃ D' m' c', e = .returned (.agg #[.int .i64 h.1, .slice D' m' c']) ∧ HubOn w' w.heap.size h D' m' c' ∧ Below w.heap.size w w' :=
  (twin24_any h D m c w hh (by have := hh.len; have := hsm.1; omega) hsm.2).mono fun e w' ⟨D', m', c', rs', he, hs, hO, hb⟩ => ⟨D', m', c', he, ⟨rs', hO, hs⟩, hb⟩
theorem htwin_p (h : Hub) (D : Option Addr) (m c : Nat) (w : World) (hh : HubIn w h D m) (hsm : Small h) :
    Calls Tryd.prog 25 #[.agg #[.int .i64 h.1, .slice D m c]] w fun e w' => ∃ D' m' c', e = .returned (.agg #[.int .i64 h.1, .slice D' m' c']) ∧ HubOn w' w.heap.size h D' m' c' ∧ Below w.heap.size w w' := by
  have hl := hh.len
  obtain ⟨rs, h1, h2⟩ := hh
  have := htwin_any h.1 D m c rs w h1 (by have := hsm.1; omega) (by rw [h2]; exact hsm.2)
  exact this.mono fun e w' ⟨D', m', c', rs', he, hs, hO, hb⟩ => ⟨D', m', c', he, ⟨rs', hO, by rw [hs]; exact h2⟩, hb⟩
theorem same24_yes (h : Hub) (hsm : Small h) (A B : Option Addr) (n m c d : Nat) (w : World) (ra : HubIn w h A n) (rb : HubIn w h B m) :
    Calls Tryd.prog 22 #[.agg #[.int .i64 h.1, .slice A n c], .agg #[.int .i64 h.1, .slice B m d]] w (GivesB w true) := by
  have := hsame24_any h h A B n m c d w ra rb hsm.2 (by have := ra.len; have := hsm.1; omega)
  rwa [decide_eq_true rfl] at this
theorem hsame_yes (h : Hub) (hsm : Small h) (A B : Option Addr) (n m c d : Nat) (w : World) (ra : HubIn w h A n) (rb : HubIn w h B m) :
    Calls Tryd.prog 24 #[.agg #[.int .i64 h.1, .slice A n c], .agg #[.int .i64 h.1, .slice B m d]] w (GivesB w true) := by
  have := hsame_any h h A B n m c d w ra rb hsm.2 (by have := ra.len; have := hsm.1; omega)
  rwa [decide_eq_true rfl] at this

set_option maxRecDepth 100000 in
set_option maxHeartbeats 16000000 in
theorem does_any (h o : Hub) (D D2 : Option Addr) (m m2 c c2 : Nat) (most id room : Int) (e : Ev) (he : HdOk e.2.2) (w : World) (hh : HubIn w h D m) (ho : HubIn w o D2 m2) (hG : GOk w) :
    Calls Tryd.prog 6 #[.agg #[.int .i64 h.1, .slice D m c], .agg #[.int .i64 o.1, .slice D2 m2 c2], .int .i64 most, .int .i64 id, .int .i64 room, .agg (evL e).toArray] w (GivesB w true) := by
  have hGr := hid (fun W k => great_any h D m c W k)
  have hGo := hid (fun W k => great_any o D2 m2 c2 W k)
  have Rh := hid hh
  have Ro := hid ho
  have HG := hid hG
  have hszE := ev_sizeA e he
  obtain ⟨HJ, nj, ej, eJ⟩ : ∃ HJ nj ej, joinT h most id = (HJ, nj, ej) := ⟨_, _, _, rfl⟩
  obtain ⟨HL, el, eL⟩ : ∃ HL el, leaveT h id = (HL, el) := ⟨_, _, rfl⟩
  obtain ⟨HP, xp, ep, eP⟩ : ∃ HP xp ep, pollHT h id = (HP, xp, ep) := ⟨_, _, _, rfl⟩
  obtain ⟨HT, et, eT⟩ : ∃ HT et, tellT h room e = (HT, et) := ⟨_, _, rfl⟩
  have sJ := hid (show Small HJ by have := joinT_small h most id; rwa [eJ] at this)
  have sL := hid (show Small HL by have := leaveT_small h id; rwa [eL] at this)
  have sP := hid (show Small HP by have := pollHT_small h id; rwa [eP] at this)
  have sT := hid (show Small HT by have := tellT_small h room e; rwa [eT] at this)
  have oxp : ItOk xp := by
    have := pollHT_itok hh.its id
    rwa [eP] at this
  have hJ1 := hid (fun D m c W k q => join_lit _ eJ D m c W k q)
  have hJ2 := hid (fun D m c W k => join24_p _ eJ D m c W k)
  have hL1 := hid (fun D m c W k q => leave_lit _ eL D m c W k q)
  have hL2 := hid (fun D m c W k => leave24_p _ eL D m c W k)
  have hP1 := hid (fun D m c W k q => poll_litH _ eP D m c W k q)
  have hP2 := hid (fun D m c W k => poll24_p _ eP D m c W k)
  have hT1 := hid (fun D m c W k q => tell_lit he _ eT D m c W k q)
  have hT2 := hid (fun D m c W k => tell24_p he _ eT D m c W k)
  have hzr : Hid (∀ W, (zeroValue 36).run Tryd.prog W = .ok (.agg (itL zeroIt).toArray) W) := hid zeroI_run
  have hsZ := it_sizeA zeroIt zeroIt_ok
  have hsX := it_sizeA xp oxp
  have hoX := hid (it_one xp)
  have hXZ := item_sz oxp
  have HE1 : Hid (∀ W, (Op.equalIn 10000 36 (.agg (itL xp).toArray) (.agg (itL xp).toArray)).run Tryd.prog W = .ok true W) := hid fun W => by
    have := run_eq_it 9995 xp xp oxp oxp W
    rwa [decide_eq_true rfl] at this
  clear hh ho hG eJ eL eP eT
  dsimp only at hJ1 hJ2 hL1 hL2 hP1 hP2 hT1 hT2
  generalize hEA : (evL e).toArray = EA at *
  clear hEA
  generalize hXA : (itL xp).toArray = XA at *
  clear hXA
  generalize hZA : (itL zeroIt).toArray = ZA at *
  clear hZA
  go_enter Tryd.func6, Tryd.ntmps6
  have tok1 : True := trivial
  go_upto_region 1 with (first
    | (clear tok1; refine wpList_bx rfl 24 _ rfl #[.int .i64 h.1, .slice D m c] rfl ?_; intro w1 hB1 hb1 hy; clear hy)
    | (refine wpList_bx rfl 24 _ rfl #[.int .i64 o.1, .slice D2 m2 c2] rfl ?_; intro w2 hB2 hb2 hy; clear hy)
    | (refine wpList_bx rfl 34 _ rfl EA rfl ?_; intro w3 hB3 hb3 hy; clear hy))
  have Y := hid (below_chain (below_chain hb1 hb2) hb3)
  have Xh := hid ((hB1.belowS hb2).belowS hb3)
  have Xo := hid (hB2.belowS hb3)
  have XE := hid hB3
  have Rh := hid (Rh.out.below Y.out)
  have Ro := hid (Ro.out.below Y.out)
  clear hB1 hb1 hB2 hb2 hB3 hb3
  generalize w.heap.size = gh at Xh ⊢
  generalize w1.heap.size = go at *
  generalize w2.heap.size = ge at *
  obtain ⟨a0, a1, a2, a3⟩ := two_facts Xh.out
  go_wp2_with fail
  refine (hGr.out _ Rh.out).mono ?_
  rintro e w4 ⟨b, rfl, hb4, hgr⟩
  have Y := hid (below_chain Y.out hb4)
  have Xh := hid (Xh.out.belowS hb4)
  have Xo := hid (Xo.out.belowS hb4)
  have XE := hid (XE.out.belowS hb4)
  have Rh := hid (Rh.out.below hb4)
  have Ro := hid (Ro.out.below hb4)
  clear hb4 a0 a1 a2 a3
  cases b
  · obtain ⟨hm18, hl20⟩ := hgr rfl
    clear hgr
    obtain ⟨a0, a1, a2, a3⟩ := two_facts Xo.out
    go_wp2_with fail
    refine (hGo.out _ Ro.out).mono ?_
    rintro e w5 ⟨b, rfl, hb5, hgo⟩
    have Y := hid (below_chain Y.out hb5)
    have Xh := hid (Xh.out.belowS hb5)
    have Xo := hid (Xo.out.belowS hb5)
    have XE := hid (XE.out.belowS hb5)
    have Rh := hid (Rh.out.below hb5)
    have Ro := hid (Ro.out.below hb5)
    clear hb5 a0 a1 a2 a3 hGr hGo
    cases b
    · clear hgo
      have sH := hid (show Small h from ⟨by have := Rh.out.len; omega, fun s hs => by have := hl20 s hs; omega⟩)
      have hTw := hid (fun W k => twin24_p h D m c W k sH.out)
      obtain ⟨a0, a1, a2, a3⟩ := two_facts Xh.out
      go_upto_region 4 with (first
        | ((with_reducible refine (hTw.out _ Rh.out).mono ?_); rintro e v1 ⟨Dn, mn, cn, rfl, hR1, hb1⟩)
        | ((with_reducible refine at_alloc (d := some 13) 24 ?_); refine wpList_al rfl 24 rfl _ (hub_zero _) ?_; intro v2 hB2 hb2 hy; clear hy)
        | ((with_reducible refine at_store (x := .tmp 13) 24 ?_); refine wpList_str rfl 24 _ _ rfl v1.heap.size _ rfl rfl _ _ hB2 rfl (hub_size _ _) (one_hub _ _ _ _) ?_; intro v4 hB4 hg4 hy; clear hy))
      have hq : Below v1.heap.size v1 v4 := hb2.grown hg4 hb2.size (by intro k e; cases e; exact Nat.le_refl _)
      have hall := below_chain hb1 hq
      have Y := hid (below_chain Y.out hall)
      have Xh := hid (Xh.out.belowS hall)
      have Xo := hid (Xo.out.belowS hall)
      have XE := hid (XE.out.belowS hall)
      have Rh := hid (Rh.out.below hall)
      have Ro := hid (Ro.out.below hall)
      have Rn := hid ((hR1.in_).below hq)
      have Xn := hid hB4
      have HG := hid (HG.out.below Y.out)
      clear hall hq hB2 hb2 hB4 hg4 hb1 hR1 a0 a1 a2 a3 hTw
      generalize v1.heap.size = gn at *
      have HB := hid (Below.refl v4.heap.size v4)
      obtain ⟨wj, hwj⟩ : ∃ wj, wj = v4 := ⟨_, rfl⟩
      rw [← hwj] at Y Xh Xo XE Rh Ro Rn Xn HG
      have HB := hid (show Below wj.heap.size wj v4 by rw [hwj]; exact HB.out)
      clear hwj
      generalize v4 = wn at *
      obtain ⟨a0, a1, a2, a3⟩ := two_facts (Xn.out.belowS HB.out)
      have hEv := XE.out.belowS HB.out
      go_upto_region 5 with (first
        | ((with_reducible refine at_load 34 ?_); refine wpList_ldr rfl 34 _ rfl ge rfl _ EA _ hEv Tryd.underlying34 rfl hszE ?_)
        | ((with_reducible refine (hJ1.out Dn mn cn _ (Rn.out.below HB.out) (HG.out.below HB.out)).mono ?_); rintro e v1 ⟨Da, ma, ca, rfl, hR1, hb1⟩)
        | ((with_reducible refine at_alloc (d := some 14) 24 ?_); refine wpList_al rfl 24 rfl _ (hub_zero _) ?_; intro v2 hB2 hb2 hy; clear hy)
        | ((with_reducible refine at_store (x := .tmp 14) 24 ?_); refine wpList_str rfl 24 _ _ rfl v1.heap.size _ rfl rfl _ _ hB2 rfl (hub_size _ _) (one_hub _ _ _ _) ?_; intro v4 hB4 hg4 hy; clear hy))
      have hq : Below v1.heap.size v1 v4 := hb2.grown hg4 hb2.size (by intro k e; cases e; exact Nat.le_refl _)
      have hall := below_chain hb1 hq
      have Sa := hid (hR1.hubSp.below hq)
      have loa := hid HB.out.size
      have hia := hid hB4.lt
      have HB' := hid (below_chain HB.out hall)
      have Xa := hid hB4
      have Ra := hid (hR1.in_.below hq)
      have HB := HB'
      clear HB' hall hq hB2 hb2 hB4 hb1 hR1 a0 a1 a2 a3 hEv hJ1 hg4
      generalize v1.heap.size = ga at *
      obtain ⟨la, hla⟩ : ∃ la, la = wn.heap.size := ⟨_, rfl⟩
      rw [← hla] at Sa loa
      clear hla
      generalize v4 = wa at *
      obtain ⟨a0, a1, a2, a3⟩ := two_facts (Xh.out.belowS HB.out)
      have hEv := XE.out.belowS HB.out
      go_upto_region 6 with (first
        | ((with_reducible refine at_load 34 ?_); refine wpList_ldr rfl 34 _ rfl ge rfl _ EA _ hEv Tryd.underlying34 rfl hszE ?_)
        | ((with_reducible refine (hJ2.out D m c _ (Rh.out.below HB.out)).mono ?_); rintro e v1 ⟨Db, mb, cb, rfl, hR1, hb1⟩)
        | ((with_reducible refine at_alloc (d := some 17) 24 ?_); refine wpList_al rfl 24 rfl _ (hub_zero _) ?_; intro v2 hB2 hb2 hy; clear hy)
        | ((with_reducible refine at_store (x := .tmp 17) 24 ?_); refine wpList_str rfl 24 _ _ rfl v1.heap.size _ rfl rfl _ _ hB2 rfl (hub_size _ _) (one_hub _ _ _ _) ?_; intro v4 hB4 hg4 hy; clear hy))
      have hq : Below v1.heap.size v1 v4 := hb2.grown hg4 hb2.size (by intro k e; cases e; exact Nat.le_refl _)
      have hall := below_chain hb1 hq
      have HB' := hid (below_chain HB.out hall)
      have Xb := hid hB4
      have Rb := hid (hR1.in_.below hq)
      have Xa := hid (Xa.out.belowS hall)
      have Ra := hid (Ra.out.below hall)
      have Sa := hid (Sa.out.below hall)
      have hia := hid (show ga < v4.heap.size by have := hia.out; have := hall.size; omega)
      have HB := HB'
      clear HB' hall hq hB2 hb2 hB4 hb1 hR1 a0 a1 a2 a3 hEv hJ2 hg4
      generalize v1.heap.size = gb at *
      generalize v4 = wb at *
      obtain ⟨a0, a1, a2, a3⟩ := two_facts (Xn.out.belowS HB.out)
      have hEv := XE.out.belowS HB.out
      go_upto_region 7 with (first
        | ((with_reducible refine at_load 34 ?_); refine wpList_ldr rfl 34 _ rfl ge rfl _ EA _ hEv Tryd.underlying34 rfl hszE ?_)
        | ((with_reducible refine (hL1.out Dn mn cn _ (Rn.out.below HB.out) (HG.out.below HB.out)).mono ?_); rintro e v1 ⟨Dk, mk, ck, rfl, hR1, hb1⟩)
        | ((with_reducible refine at_alloc (d := some 20) 24 ?_); refine wpList_al rfl 24 rfl _ (hub_zero _) ?_; intro v2 hB2 hb2 hy; clear hy)
        | ((with_reducible refine at_store (x := .tmp 20) 24 ?_); refine wpList_str rfl 24 _ _ rfl v1.heap.size _ rfl rfl _ _ hB2 rfl (hub_size _ _) (one_hub _ _ _ _) ?_; intro v4 hB4 hg4 hy; clear hy))
      have hq : Below v1.heap.size v1 v4 := hb2.grown hg4 hb2.size (by intro k e; cases e; exact Nat.le_refl _)
      have hall := below_chain hb1 hq
      have HB' := hid (below_chain HB.out hall)
      have Xk := hid hB4
      have Rk := hid (hR1.in_.below hq)
      have Xa := hid (Xa.out.belowS hall)
      have Ra := hid (Ra.out.below hall)
      have Xb := hid (Xb.out.belowS hall)
      have Rb := hid (Rb.out.below hall)
      have Sa := hid (Sa.out.below hall)
      have hia := hid (show ga < v4.heap.size by have := hia.out; have := hall.size; omega)
      have HB := HB'
      clear HB' hall hq hB2 hb2 hB4 hb1 hR1 a0 a1 a2 a3 hEv hL1 hg4
      generalize v1.heap.size = gk at *
      generalize v4 = wk at *
      obtain ⟨a0, a1, a2, a3⟩ := two_facts (Xh.out.belowS HB.out)
      have hEv := XE.out.belowS HB.out
      go_upto_region 8 with (first
        | ((with_reducible refine at_load 34 ?_); refine wpList_ldr rfl 34 _ rfl ge rfl _ EA _ hEv Tryd.underlying34 rfl hszE ?_)
        | ((with_reducible refine (hL2.out D m c _ (Rh.out.below HB.out)).mono ?_); rintro e v1 ⟨Dd, md, cd, rfl, hR1, hb1⟩)
        | ((with_reducible refine at_alloc (d := some 22) 24 ?_); refine wpList_al rfl 24 rfl _ (hub_zero _) ?_; intro v2 hB2 hb2 hy; clear hy)
        | ((with_reducible refine at_store (x := .tmp 22) 24 ?_); refine wpList_str rfl 24 _ _ rfl v1.heap.size _ rfl rfl _ _ hB2 rfl (hub_size _ _) (one_hub _ _ _ _) ?_; intro v4 hB4 hg4 hy; clear hy))
      have hq : Below v1.heap.size v1 v4 := hb2.grown hg4 hb2.size (by intro k e; cases e; exact Nat.le_refl _)
      have hall := below_chain hb1 hq
      have HB' := hid (below_chain HB.out hall)
      have Xd := hid hB4
      have Rd := hid (hR1.in_.below hq)
      have Xa := hid (Xa.out.belowS hall)
      have Ra := hid (Ra.out.below hall)
      have Xb := hid (Xb.out.belowS hall)
      have Rb := hid (Rb.out.below hall)
      have Xk := hid (Xk.out.belowS hall)
      have Rk := hid (Rk.out.below hall)
      have Sa := hid (Sa.out.below hall)
      have hia := hid (show ga < v4.heap.size by have := hia.out; have := hall.size; omega)
      have HB := HB'
      clear HB' hall hq hB2 hb2 hB4 hb1 hR1 a0 a1 a2 a3 hEv hL2 hg4
      generalize v1.heap.size = gd at *
      generalize v4 = wd at *
      obtain ⟨a0, a1, a2, a3⟩ := two_facts (Xn.out.belowS HB.out)
      have hEv := XE.out.belowS HB.out
      go_upto_region 9 with (first
        | ((with_reducible refine at_load 34 ?_); refine wpList_ldr rfl 34 _ rfl ge rfl _ EA _ hEv Tryd.underlying34 rfl hszE ?_)
        | ((with_reducible refine (hP1.out Dn mn cn _ (Rn.out.below HB.out) (HG.out.below HB.out)).mono ?_); rintro e v1 ⟨Dp, mp, cp, rfl, hR1, hb1⟩)
        | ((with_reducible refine at_alloc (d := some 24) 24 ?_); refine wpList_al rfl 24 rfl _ (hub_zero _) ?_; intro v2 hB2 hb2 hy; clear hy)
        | ((with_reducible refine at_alloc (d := some 25) 36 ?_); refine wpList_al rfl 36 rfl _ (hzr.out _) ?_; intro v3 hB3 hb3 hy; clear hy; have l23 := hB2.lt)
        | ((with_reducible refine at_store (x := .tmp 24) 24 ?_); refine wpList_str rfl 24 _ _ rfl v1.heap.size _ rfl rfl _ _ (hB2.belowS hb3) rfl (hub_size _ _) (one_hub _ _ _ _) ?_; intro v5 hB5 hg5 hy; clear hy)
        | ((with_reducible refine at_store (x := .tmp 25) 36 ?_); refine wpList_str rfl 36 _ _ rfl v2.heap.size XA rfl rfl _ _ (hB3.grown hg5 (fun e => by have := Option.some.inj e; omega)) hXZ hsZ hoX.out ?_; intro v4 hBi hg6 hy; clear hy))
      have hq2 := below_chain hb2 hb3
      have hq5 : Below v1.heap.size v1 v5 := hq2.grown hg5 hq2.size (by intro k e; cases e; exact Nat.le_refl _)
      have hq : Below v1.heap.size v1 v4 := hq5.grown hg6 hq5.size (by intro k e; cases e; exact hb2.size)
      have hB4 := hB5.grown hg6 (fun e => by have := Option.some.inj e; omega)
      have Zp := hid hBi
      have hall := below_chain hb1 hq
      clear hq2 hq5 hB3 hb3 l23 hB5 hg5 hBi hg6
      have HB' := hid (below_chain HB.out hall)
      have Xp := hid hB4
      have Rp := hid (hR1.in_.below hq)
      have Xa := hid (Xa.out.belowS hall)
      have Ra := hid (Ra.out.below hall)
      have Xb := hid (Xb.out.belowS hall)
      have Rb := hid (Rb.out.below hall)
      have Xk := hid (Xk.out.belowS hall)
      have Rk := hid (Rk.out.below hall)
      have Xd := hid (Xd.out.belowS hall)
      have Rd := hid (Rd.out.below hall)
      have Sa := hid (Sa.out.below hall)
      have hia := hid (show ga < v4.heap.size by have := hia.out; have := hall.size; omega)
      have HB := HB'
      clear HB' hall hq hB2 hb2 hB4 hb1 hR1 a0 a1 a2 a3 hEv hP1
      generalize v1.heap.size = gp at *
      generalize v2.heap.size = gip at *
      generalize v4 = wp at *
      obtain ⟨a0, a1, a2, a3⟩ := two_facts (Xh.out.belowS HB.out)
      have hEv := XE.out.belowS HB.out
      go_upto_region 10 with (first
        | ((with_reducible refine at_load 34 ?_); refine wpList_ldr rfl 34 _ rfl ge rfl _ EA _ hEv Tryd.underlying34 rfl hszE ?_)
        | ((with_reducible refine (hP2.out D m c _ (Rh.out.below HB.out)).mono ?_); rintro e v1 ⟨Dq, mq, cq, rfl, hR1, hb1⟩)
        | ((with_reducible refine at_alloc (d := some 27) 24 ?_); refine wpList_al rfl 24 rfl _ (hub_zero _) ?_; intro v2 hB2 hb2 hy; clear hy)
        | ((with_reducible refine at_alloc (d := some 28) 36 ?_); refine wpList_al rfl 36 rfl _ (hzr.out _) ?_; intro v3 hB3 hb3 hy; clear hy; have l23 := hB2.lt)
        | ((with_reducible refine at_store (x := .tmp 27) 24 ?_); refine wpList_str rfl 24 _ _ rfl v1.heap.size _ rfl rfl _ _ (hB2.belowS hb3) rfl (hub_size _ _) (one_hub _ _ _ _) ?_; intro v5 hB5 hg5 hy; clear hy)
        | ((with_reducible refine at_store (x := .tmp 28) 36 ?_); refine wpList_str rfl 36 _ _ rfl v2.heap.size XA rfl rfl _ _ (hB3.grown hg5 (fun e => by have := Option.some.inj e; omega)) hXZ hsZ hoX.out ?_; intro v4 hBi hg6 hy; clear hy))
      have hq2 := below_chain hb2 hb3
      have hq5 : Below v1.heap.size v1 v5 := hq2.grown hg5 hq2.size (by intro k e; cases e; exact Nat.le_refl _)
      have hq : Below v1.heap.size v1 v4 := hq5.grown hg6 hq5.size (by intro k e; cases e; exact hb2.size)
      have hB4 := hB5.grown hg6 (fun e => by have := Option.some.inj e; omega)
      have Zq := hid hBi
      have hall := below_chain hb1 hq
      clear hq2 hq5 hB3 hb3 l23 hB5 hg5 hBi hg6
      have HB' := hid (below_chain HB.out hall)
      have Xq := hid hB4
      have Rq := hid (hR1.in_.below hq)
      have Xa := hid (Xa.out.belowS hall)
      have Ra := hid (Ra.out.below hall)
      have Xb := hid (Xb.out.belowS hall)
      have Rb := hid (Rb.out.below hall)
      have Xk := hid (Xk.out.belowS hall)
      have Rk := hid (Rk.out.below hall)
      have Xd := hid (Xd.out.belowS hall)
      have Rd := hid (Rd.out.below hall)
      have Xp := hid (Xp.out.belowS hall)
      have Rp := hid (Rp.out.below hall)
      have Sa := hid (Sa.out.below hall)
      have hia := hid (show ga < v4.heap.size by have := hia.out; have := hall.size; omega)
      have Zp := hid (Zp.out.belowS hall)
      have HB := HB'
      clear HB' hall hq hB2 hb2 hB4 hb1 hR1 a0 a1 a2 a3 hEv hP2
      generalize v1.heap.size = gq at *
      generalize v2.heap.size = giq at *
      generalize v4 = wq at *
      have hia0 := hia
      obtain ⟨a0, a1, a2, a3⟩ := two_facts (Xn.out.belowS HB.out)
      have hEv := XE.out.belowS HB.out
      go_upto_region 11 with (first
        | ((with_reducible refine at_load 34 ?_); refine wpList_ldr rfl 34 _ rfl ge rfl _ EA _ hEv Tryd.underlying34 rfl hszE ?_)
        | ((with_reducible refine (hT1.out Dn mn cn _ (Rn.out.below HB.out) (HG.out.below HB.out)).mono ?_); rintro e v1 ⟨Dr, mr, cr, rfl, hR1, hb1⟩)
        | ((with_reducible refine at_alloc (d := some 30) 24 ?_); refine wpList_al rfl 24 rfl _ (hub_zero _) ?_; intro v2 hB2 hb2 hy; clear hy)
        | ((with_reducible refine at_store (x := .tmp 30) 24 ?_); refine wpList_str rfl 24 _ _ rfl v1.heap.size _ rfl rfl _ _ hB2 rfl (hub_size _ _) (one_hub _ _ _ _) ?_; intro v4 hB4 hg4 hy; clear hy))
      have hq : Below v1.heap.size v1 v4 := hb2.grown hg4 hb2.size (by intro k e; cases e; exact Nat.le_refl _)
      have hall := below_chain hb1 hq
      have Sr := hid (hR1.hubSp.below hq)
      have lor := hid HB.out.size
      have hir := hid hB4.lt
      have HB' := hid (below_chain HB.out hall)
      have Xr := hid hB4
      have Rr := hid (hR1.in_.below hq)
      have Xa := hid (Xa.out.belowS hall)
      have Ra := hid (Ra.out.below hall)
      have Xb := hid (Xb.out.belowS hall)
      have Rb := hid (Rb.out.below hall)
      have Xk := hid (Xk.out.belowS hall)
      have Rk := hid (Rk.out.below hall)
      have Xd := hid (Xd.out.belowS hall)
      have Rd := hid (Rd.out.below hall)
      have Xp := hid (Xp.out.belowS hall)
      have Rp := hid (Rp.out.below hall)
      have Xq := hid (Xq.out.belowS hall)
      have Rq := hid (Rq.out.below hall)
      have Sa := hid (Sa.out.below hall)
      have hia := hid (show ga < v4.heap.size by have := hia.out; have := hall.size; omega)
      have Zp := hid (Zp.out.belowS hall)
      have Zq := hid (Zq.out.belowS hall)
      have lra := hid (show ga < wq.heap.size from by have := hia0.out; omega)
      have lrr := hid (show wq.heap.size ≤ v1.heap.size from hb1.size)
      have HB := HB'
      clear HB' hall hq hB2 hb2 hB4 hb1 hR1 a0 a1 a2 a3 hEv hT1 hg4
      generalize v1.heap.size = gr at *
      obtain ⟨lr, hlr⟩ : ∃ lr, lr = wq.heap.size := ⟨_, rfl⟩
      rw [← hlr] at Sr lor lra lrr
      clear hlr
      generalize v4 = wr at *
      obtain ⟨a0, a1, a2, a3⟩ := two_facts (Xh.out.belowS HB.out)
      have hEv := XE.out.belowS HB.out
      go_upto_region 12 with (first
        | ((with_reducible refine at_load 34 ?_); refine wpList_ldr rfl 34 _ rfl ge rfl _ EA _ hEv Tryd.underlying34 rfl hszE ?_)
        | ((with_reducible refine (hT2.out D m c _ (Rh.out.below HB.out)).mono ?_); rintro e v1 ⟨Dt, mt, ct, rfl, hR1, hb1⟩)
        | ((with_reducible refine at_alloc (d := some 32) 24 ?_); refine wpList_al rfl 24 rfl _ (hub_zero _) ?_; intro v2 hB2 hb2 hy; clear hy)
        | ((with_reducible refine at_store (x := .tmp 32) 24 ?_); refine wpList_str rfl 24 _ _ rfl v1.heap.size _ rfl rfl _ _ hB2 rfl (hub_size _ _) (one_hub _ _ _ _) ?_; intro v4 hB4 hg4 hy; clear hy))
      have hq : Below v1.heap.size v1 v4 := hb2.grown hg4 hb2.size (by intro k e; cases e; exact Nat.le_refl _)
      have hall := below_chain hb1 hq
      have HB' := hid (below_chain HB.out hall)
      have Xt := hid hB4
      have Rt := hid (hR1.in_.below hq)
      have Xa := hid (Xa.out.belowS hall)
      have Ra := hid (Ra.out.below hall)
      have Xb := hid (Xb.out.belowS hall)
      have Rb := hid (Rb.out.below hall)
      have Xk := hid (Xk.out.belowS hall)
      have Rk := hid (Rk.out.below hall)
      have Xd := hid (Xd.out.belowS hall)
      have Rd := hid (Rd.out.below hall)
      have Xp := hid (Xp.out.belowS hall)
      have Rp := hid (Rp.out.below hall)
      have Xq := hid (Xq.out.belowS hall)
      have Rq := hid (Rq.out.below hall)
      have Xr := hid (Xr.out.belowS hall)
      have Rr := hid (Rr.out.below hall)
      have Sa := hid (Sa.out.below hall)
      have hia := hid (show ga < v4.heap.size by have := hia.out; have := hall.size; omega)
      have Zp := hid (Zp.out.belowS hall)
      have Zq := hid (Zq.out.belowS hall)
      have Sr := hid (Sr.out.below hall)
      have hir := hid (show gr < v4.heap.size by have := hir.out; have := hall.size; omega)
      have HB := HB'
      clear HB' hall hq hB2 hb2 hB4 hb1 hR1 a0 a1 a2 a3 hEv hT2 hg4
      generalize v1.heap.size = gt at *
      generalize v4 = wt at *
      have hS1 := hid (fun W k l => same24_yes HJ sJ.out Da Db ma mb ca cb W k l)
      have hS2 := hid (fun W k l => same24_yes HL sL.out Dk Dd mk md ck cd W k l)
      have hS3 := hid (fun W k l => same24_yes HP sP.out Dp Dq mp mq cp cq W k l)
      have hS4 := hid (fun W k l => same24_yes HT sT.out Dr Dt mr mt cr ct W k l)
      have HE2 := HE1.out
      obtain ⟨p0, p1, _, _⟩ := two_facts Xa.out
      obtain ⟨p2, p3, _, _⟩ := two_facts Xb.out
      go_upto_region 13 with (first
        | ((with_reducible refine (hS1.out _ Ra.out Rb.out).mono ?_); rintro e v1 ⟨rfl, hb1⟩; have Q := hid hb1; clear hb1 p0 p1 p2 p3; obtain ⟨p0, p1, _, _⟩ := two_facts (Xk.out.belowS Q.out); obtain ⟨p2, p3, _, _⟩ := two_facts (Xd.out.belowS Q.out))
        | ((with_reducible refine (hS2.out _ (Rk.out.below Q.out) (Rd.out.below Q.out)).mono ?_); rintro e v2 ⟨rfl, hb1⟩; have Q := hid (below_chain Q.out hb1); clear hb1 p0 p1 p2 p3; obtain ⟨p0, p1, _, _⟩ := two_facts (Xp.out.belowS Q.out); obtain ⟨p2, p3, _, _⟩ := two_facts (Xq.out.belowS Q.out))
        | ((with_reducible refine (hS3.out _ (Rp.out.below Q.out) (Rq.out.below Q.out)).mono ?_); rintro e v3 ⟨rfl, hb1⟩; have Q := hid (below_chain Q.out hb1); clear hb1 p0 p1 p2 p3; obtain ⟨p0, p1, _, _⟩ := two_facts (Xr.out.belowS Q.out); obtain ⟨p2, p3, _, _⟩ := two_facts (Xt.out.belowS Q.out))
        | ((with_reducible refine at_load (d := some 129) 36 ?_); refine wpList_ldr_g (by kernel_rfl) 36 _ rfl gip rfl _ XA _ (Zp.out.belowS Q.out) Tryd.underlying36 rfl hsX ?_)
        | ((with_reducible refine at_load (d := some 130) 36 ?_); refine wpList_ldr_g (by kernel_rfl) 36 _ rfl giq rfl _ XA _ (Zq.out.belowS Q.out) Tryd.underlying36 rfl hsX ?_)
        | ((with_reducible refine (hS4.out _ (Rr.out.below Q.out) (Rt.out.below Q.out)).mono ?_); rintro e v4 ⟨rfl, hb1⟩; have Q := hid (below_chain Q.out hb1); clear hb1 p0 p1 p2 p3))
      have HB := hid (below_chain HB.out Q.out)
      have Xa := hid (Xa.out.belowS Q.out)
      have Xr := hid (Xr.out.belowS Q.out)
      have Sa := hid (Sa.out.below Q.out)
      have Sr := hid (Sr.out.below Q.out)
      have hia := hid (Nat.lt_of_lt_of_le hia.out Q.out.size)
      have hir := hid (Nat.lt_of_lt_of_le hir.out Q.out.size)
      have hmr := hid (show mr ≤ 1000 by have := Rr.out.len; have := sT.out.1; omega)
      have hma := hid (show ma ≤ 1000 by have := Ra.out.len; have := sJ.out.1; omega)
      clear Ra Rb Rk Rd Rp Rq Rr Rt Xb Xk Xd Xp Xq Xt Zp Zq hS1 hS2 hS3 hS4 HE2 Q
      generalize hv4 : v4 = w6 at *
      clear hv4
      have HB := hid (below_drew1 HB.out)
      have Xa := hid Xa.out.drew
      have Xr := hid Xr.out.drew
      have Sa := hid (Sa.out.below (below_self_drew w6))
      have Sr := hid (Sr.out.below (below_self_drew w6))
      have hia := hid (show ga < w6.drew.heap.size from hia.out)
      have hir := hid (show gr < w6.drew.heap.size from hir.out)
      have hC1 := hid (fun W k q => check_litH (h := h) _ rfl Dn mn cn W k q)
      have hC2 := hid (fun W k => check24_lit _ h rfl D m c W k)
      have hSm1 := hid (fun W k l => hsame_any h o Dn D2 mn m2 cn c2 W k l sH.out.2 (by have := Rn.out.len; have := sH.out.1; omega))
      have hSm2 := hid (fun W k l => hsame24_any h o D D2 m m2 c c2 W k l sH.out.2 (by omega))
      have hSm3 := hid (fun W k l => hsame_yes h sH.out Dn D mn m cn c W k l)
      have hSm4 := hid (fun D' m' c' W k l => same24_yes h sH.out D' D m' m c' c W k l)
      have hSm5 := hid (fun W k l => same24_yes h sH.out Dn D mn m cn c W k l)
      have hTw2 := hid (fun W k => htwin_p h Dn mn cn W k sH.out)
      unfold GivesN at hC2
      generalize errOf (hubMay h) = q at *
      generalize decide (h = o) = bo at *
      obtain ⟨p0, p1, _, _⟩ := two_facts (Xn.out.belowS HB.out)
      obtain ⟨p2, p3, _, _⟩ := two_facts (Xh.out.belowS HB.out)
      obtain ⟨p4, p5, _, _⟩ := two_facts (Xo.out.belowS HB.out)
      refine wp_region_held_drew (S := (fun w' => w'.cell? ⟨gn, 0, none⟩ = some (.int .i64 h.1) ∧ w'.cell? ⟨gn, 1, none⟩ = some (.slice Dn mn cn) ∧ w'.cell? ⟨gh, 0, none⟩ = some (.int .i64 h.1) ∧ w'.cell? ⟨gh, 1, none⟩ = some (.slice D m c) ∧ w'.cell? ⟨go, 0, none⟩ = some (.int .i64 o.1) ∧ w'.cell? ⟨go, 1, none⟩ = some (.slice D2 m2 c2))) (by kernel_rfl) ⟨p0, p1, p2, p3, p4, p5⟩ (fun hHeld => ?_)
      refine reg_take (v := ?_) 0 rfl (by kernel_rfl) (by kernel_rfl) (by kernel_rfl) (fun _ _ _ h => h) (Or.inl ⟨by rfl, ?_⟩) (by assumption) ?_; rotate_left; (intro w hSw; (try dsimp only at hSw); go_simp); (try with_reducible rfl); (try simp only [Act.put, List.setIfInBounds_toArray, List.set_cons_zero, List.set_cons_succ])
      refine reg_take (v := ?_) 2 rfl (by kernel_rfl) (by kernel_rfl) (by kernel_rfl) (fun _ _ _ h => h) (Or.inl ⟨by rfl, ?_⟩) (by assumption) ?_; rotate_left; (intro w hSw; (try dsimp only at hSw); go_simp); (try with_reducible rfl); (try simp only [Act.put, List.setIfInBounds_toArray, List.set_cons_zero, List.set_cons_succ])
      refine reg_only 1 rfl (by kernel_rfl) (fun K hK => ?_); go_simp; refine (hC1.out _ (Rn.out.below HB.out) (HG.out.below HB.out)).mono ?_; rintro e' u1 ⟨rfl, hb1⟩; have HB := hid (below_chain HB.out hb1); have Xa := hid (Xa.out.belowS hb1); have Xr := hid (Xr.out.belowS hb1); have Sa := hid (Sa.out.below hb1); have Sr := hid (Sr.out.below hb1); have hia := hid (Nat.lt_of_lt_of_le hia.out hb1.size); have hir := hid (Nat.lt_of_lt_of_le hir.out hb1.size); obtain ⟨p0, p1, _, _⟩ := two_facts (Xn.out.belowS HB.out); obtain ⟨p2, p3, _, _⟩ := two_facts (Xh.out.belowS HB.out); obtain ⟨p4, p5, _, _⟩ := two_facts (Xo.out.belowS HB.out); refine hK.out _ _ ?_ (fun hHeld => ?_); (exact ⟨p0, p1, p2, p3, p4, p5⟩); clear hK K; (try simp only [Act.put, List.setIfInBounds_toArray, List.set_cons_zero, List.set_cons_succ])
      refine reg_only 3 rfl (by kernel_rfl) (fun K hK => ?_); go_simp; refine (hC2.out _ (Rh.out.below HB.out)).mono ?_; rintro e' u2 ⟨rfl, hb1⟩; have HB := hid (below_chain HB.out hb1); have Xa := hid (Xa.out.belowS hb1); have Xr := hid (Xr.out.belowS hb1); have Sa := hid (Sa.out.below hb1); have Sr := hid (Sr.out.below hb1); have hia := hid (Nat.lt_of_lt_of_le hia.out hb1.size); have hir := hid (Nat.lt_of_lt_of_le hir.out hb1.size); obtain ⟨p0, p1, _, _⟩ := two_facts (Xn.out.belowS HB.out); obtain ⟨p2, p3, _, _⟩ := two_facts (Xh.out.belowS HB.out); obtain ⟨p4, p5, _, _⟩ := two_facts (Xo.out.belowS HB.out); refine hK.out _ _ ?_ (fun hHeld => ?_); (exact ⟨p0, p1, p2, p3, p4, p5⟩); clear hK K; (try simp only [Act.put, List.setIfInBounds_toArray, List.set_cons_zero, List.set_cons_succ])
      refine reg_take (v := ?_) 4 rfl (by kernel_rfl) (by kernel_rfl) (by kernel_rfl) (fun _ _ _ h => h) (Or.inl ⟨by rfl, ?_⟩) (by assumption) ?_; rotate_left; (intro w hSw; (try dsimp only at hSw); go_simp); (try with_reducible rfl); (try simp only [Act.put, List.setIfInBounds_toArray, List.set_cons_zero, List.set_cons_succ])
      refine reg_take (v := ?_) 5 rfl (by kernel_rfl) (by kernel_rfl) (by kernel_rfl) (fun _ _ _ h => h) (Or.inl ⟨by rfl, ?_⟩) (by assumption) ?_; rotate_left; (intro w hSw; (try dsimp only at hSw); go_simp); (try with_reducible rfl); (try simp only [Act.put, List.setIfInBounds_toArray, List.set_cons_zero, List.set_cons_succ])
      refine reg_take (v := ?_) 6 rfl (by kernel_rfl) (by kernel_rfl) (by kernel_rfl) (fun _ _ _ h => h) (Or.inl ⟨by rfl, ?_⟩) (by assumption) ?_; rotate_left; (intro w hSw; (try dsimp only at hSw); go_simp); (try with_reducible rfl); (try simp only [Act.put, List.setIfInBounds_toArray, List.set_cons_zero, List.set_cons_succ])
      refine reg_take (v := ?_) 7 rfl (by kernel_rfl) (by kernel_rfl) (by kernel_rfl) (fun _ _ _ h => h) (Or.inl ⟨by rfl, ?_⟩) (by assumption) ?_; rotate_left; (intro w hSw; (try dsimp only at hSw); go_simp); (try with_reducible rfl); (try simp only [Act.put, List.setIfInBounds_toArray, List.set_cons_zero, List.set_cons_succ])
      refine reg_take (v := ?_) 9 rfl (by kernel_rfl) (by kernel_rfl) (by kernel_rfl) (fun _ _ _ h => h) (Or.inl ⟨by rfl, ?_⟩) (by assumption) ?_; rotate_left; (intro w hSw; (try dsimp only at hSw); go_simp); (try with_reducible rfl); (try simp only [Act.put, List.setIfInBounds_toArray, List.set_cons_zero, List.set_cons_succ])
      refine reg_take (v := ?_) 10 rfl (by kernel_rfl) (by kernel_rfl) (by kernel_rfl) (fun _ _ _ h => h) (Or.inl ⟨by rfl, ?_⟩) (by assumption) ?_; rotate_left; (intro w hSw; (try dsimp only at hSw); go_simp); (try with_reducible rfl); (try simp only [Act.put, List.setIfInBounds_toArray, List.set_cons_zero, List.set_cons_succ])
      refine reg_only 8 rfl (by kernel_rfl) (fun K hK => ?_); go_simp; refine (hSm1.out _ (Rn.out.below HB.out) (Ro.out.below HB.out)).mono ?_; rintro e' u3 ⟨rfl, hb1⟩; have HB := hid (below_chain HB.out hb1); have Xa := hid (Xa.out.belowS hb1); have Xr := hid (Xr.out.belowS hb1); have Sa := hid (Sa.out.below hb1); have Sr := hid (Sr.out.below hb1); have hia := hid (Nat.lt_of_lt_of_le hia.out hb1.size); have hir := hid (Nat.lt_of_lt_of_le hir.out hb1.size); obtain ⟨p0, p1, _, _⟩ := two_facts (Xn.out.belowS HB.out); obtain ⟨p2, p3, _, _⟩ := two_facts (Xh.out.belowS HB.out); obtain ⟨p4, p5, _, _⟩ := two_facts (Xo.out.belowS HB.out); refine hK.out _ _ ?_ (fun hHeld => ?_); (exact ⟨p0, p1, p2, p3, p4, p5⟩); clear hK K; (try simp only [Act.put, List.setIfInBounds_toArray, List.set_cons_zero, List.set_cons_succ])
      refine reg_only 11 rfl (by kernel_rfl) (fun K hK => ?_); go_simp; refine (hSm2.out _ (Rh.out.below HB.out) (Ro.out.below HB.out)).mono ?_; rintro e' u4 ⟨rfl, hb1⟩; have HB := hid (below_chain HB.out hb1); have Xa := hid (Xa.out.belowS hb1); have Xr := hid (Xr.out.belowS hb1); have Sa := hid (Sa.out.below hb1); have Sr := hid (Sr.out.below hb1); have hia := hid (Nat.lt_of_lt_of_le hia.out hb1.size); have hir := hid (Nat.lt_of_lt_of_le hir.out hb1.size); obtain ⟨p0, p1, _, _⟩ := two_facts (Xn.out.belowS HB.out); obtain ⟨p2, p3, _, _⟩ := two_facts (Xh.out.belowS HB.out); obtain ⟨p4, p5, _, _⟩ := two_facts (Xo.out.belowS HB.out); refine hK.out _ _ ?_ (fun hHeld => ?_); (exact ⟨p0, p1, p2, p3, p4, p5⟩); clear hK K; (try simp only [Act.put, List.setIfInBounds_toArray, List.set_cons_zero, List.set_cons_succ])
      refine reg_take (v := ?_) 12 rfl (by kernel_rfl) (by kernel_rfl) (by kernel_rfl) (fun _ _ _ h => h) (Or.inl ⟨by rfl, ?_⟩) (by assumption) ?_; rotate_left; (intro w hSw; (try dsimp only at hSw); go_simp); (try with_reducible rfl); (try simp only [Act.put, List.setIfInBounds_toArray, List.set_cons_zero, List.set_cons_succ])
      refine reg_take (v := ?_) 13 rfl (by kernel_rfl) (by kernel_rfl) (by kernel_rfl) (fun _ _ _ h => h) (Or.inl ⟨by rfl, ?_⟩) (by assumption) ?_; rotate_left; (intro w hSw; (try dsimp only at hSw); go_simp); (try with_reducible rfl); (try simp only [Act.put, List.setIfInBounds_toArray, List.set_cons_zero, List.set_cons_succ])
      refine reg_take (v := ?_) 14 rfl (by kernel_rfl) (by kernel_rfl) (by kernel_rfl) (fun _ _ _ h => h) (Or.inl ⟨by rfl, ?_⟩) (by assumption) ?_; rotate_left; (intro w hSw; (try dsimp only at hSw); go_simp); (try with_reducible rfl); (try simp only [Act.put, List.setIfInBounds_toArray, List.set_cons_zero, List.set_cons_succ])
      refine reg_take (v := ?_) 15 rfl (by kernel_rfl) (by kernel_rfl) (by kernel_rfl) (fun _ _ _ h => h) (Or.inl ⟨by rfl, ?_⟩) (by assumption) ?_; rotate_left; (intro w hSw; (try dsimp only at hSw); go_simp); (try with_reducible rfl); (try simp only [Act.put, List.setIfInBounds_toArray, List.set_cons_zero, List.set_cons_succ])
      refine reg_take (v := ?_) 16 rfl (by kernel_rfl) (by kernel_rfl) (by kernel_rfl) (fun _ _ _ h => h) (Or.inl ⟨by rfl, ?_⟩) (by assumption) ?_; rotate_left; (intro w hSw; (try dsimp only at hSw); go_simp); (try with_reducible rfl); (try simp only [Act.put, List.setIfInBounds_toArray, List.set_cons_zero, List.set_cons_succ])
      refine reg_only 17 rfl (by kernel_rfl) (fun K hK => ?_); go_simp; refine (hSm3.out _ (Rn.out.below HB.out) (Rh.out.below HB.out)).mono ?_; rintro e' u5 ⟨rfl, hb1⟩; have HB := hid (below_chain HB.out hb1); have Xa := hid (Xa.out.belowS hb1); have Xr := hid (Xr.out.belowS hb1); have Sa := hid (Sa.out.below hb1); have Sr := hid (Sr.out.below hb1); have hia := hid (Nat.lt_of_lt_of_le hia.out hb1.size); have hir := hid (Nat.lt_of_lt_of_le hir.out hb1.size); obtain ⟨p0, p1, _, _⟩ := two_facts (Xn.out.belowS HB.out); obtain ⟨p2, p3, _, _⟩ := two_facts (Xh.out.belowS HB.out); obtain ⟨p4, p5, _, _⟩ := two_facts (Xo.out.belowS HB.out); refine hK.out _ _ ?_ (fun hHeld => ?_); (exact ⟨p0, p1, p2, p3, p4, p5⟩); clear hK K; (try simp only [Act.put, List.setIfInBounds_toArray, List.set_cons_zero, List.set_cons_succ])
      refine reg_take (v := ?_) 18 rfl (by kernel_rfl) (by kernel_rfl) (by kernel_rfl) (fun _ _ _ h => h) (Or.inl ⟨by rfl, ?_⟩) (by assumption) ?_; rotate_left; (intro w hSw; (try dsimp only at hSw); go_simp); (try with_reducible rfl); (try simp only [Act.put, List.setIfInBounds_toArray, List.set_cons_zero, List.set_cons_succ])
      refine reg_take (v := ?_) 19 rfl (by kernel_rfl) (by kernel_rfl) (by kernel_rfl) (fun _ _ _ h => h) (Or.inl ⟨by rfl, ?_⟩) (by assumption) ?_; rotate_left; (intro w hSw; (try dsimp only at hSw); go_simp); (try with_reducible rfl); (try simp only [Act.put, List.setIfInBounds_toArray, List.set_cons_zero, List.set_cons_succ])
      refine reg_take (v := ?_) 20 rfl (by kernel_rfl) (by kernel_rfl) (by kernel_rfl) (fun _ _ _ h => h) (Or.inl ⟨by rfl, ?_⟩) (by assumption) ?_; rotate_left; (intro w hSw; (try dsimp only at hSw); go_simp); (try with_reducible rfl); (try simp only [Act.put, List.setIfInBounds_toArray, List.set_cons_zero, List.set_cons_succ])
      refine reg_take (v := ?_) 22 rfl (by kernel_rfl) (by kernel_rfl) (by kernel_rfl) (fun _ _ _ h => h) (Or.inl ⟨by rfl, ?_⟩) (by assumption) ?_; rotate_left; (intro w hSw; (try dsimp only at hSw); go_simp); (try with_reducible rfl); (try simp only [Act.put, List.setIfInBounds_toArray, List.set_cons_zero, List.set_cons_succ])
      refine reg_only 21 rfl (by kernel_rfl) (fun K hK => ?_); go_simp; refine (hTw2.out _ (Rn.out.below HB.out)).mono ?_; rintro e' u6 ⟨D', m', c', rfl, hR6, hb1⟩; have HB := hid (below_chain HB.out hb1); have Xa := hid (Xa.out.belowS hb1); have Xr := hid (Xr.out.belowS hb1); have Sa := hid (Sa.out.below hb1); have Sr := hid (Sr.out.below hb1); have hia := hid (Nat.lt_of_lt_of_le hia.out hb1.size); have hir := hid (Nat.lt_of_lt_of_le hir.out hb1.size); obtain ⟨p0, p1, _, _⟩ := two_facts (Xn.out.belowS HB.out); obtain ⟨p2, p3, _, _⟩ := two_facts (Xh.out.belowS HB.out); obtain ⟨p4, p5, _, _⟩ := two_facts (Xo.out.belowS HB.out); refine hK.out _ _ ?_ (fun hHeld => ?_); (exact ⟨p0, p1, p2, p3, p4, p5⟩); clear hK K; (try simp only [Act.put, List.setIfInBounds_toArray, List.set_cons_zero, List.set_cons_succ])
      refine reg_only 23 rfl (by kernel_rfl) (fun K hK => ?_); go_simp; refine (hSm4.out D' m' c' _ hR6.in_ (Rh.out.below HB.out)).mono ?_; rintro e' u7 ⟨rfl, hb1⟩; have HB := hid (below_chain HB.out hb1); have Xa := hid (Xa.out.belowS hb1); have Xr := hid (Xr.out.belowS hb1); have Sa := hid (Sa.out.below hb1); have Sr := hid (Sr.out.below hb1); have hia := hid (Nat.lt_of_lt_of_le hia.out hb1.size); have hir := hid (Nat.lt_of_lt_of_le hir.out hb1.size); obtain ⟨p0, p1, _, _⟩ := two_facts (Xn.out.belowS HB.out); obtain ⟨p2, p3, _, _⟩ := two_facts (Xh.out.belowS HB.out); obtain ⟨p4, p5, _, _⟩ := two_facts (Xo.out.belowS HB.out); refine hK.out _ _ ?_ (fun hHeld => ?_); (exact ⟨p0, p1, p2, p3, p4, p5⟩); clear hK K; (try simp only [Act.put, List.setIfInBounds_toArray, List.set_cons_zero, List.set_cons_succ])
      refine reg_take (v := ?_) 24 rfl (by kernel_rfl) (by kernel_rfl) (by kernel_rfl) (fun _ _ _ h => h) (Or.inl ⟨by rfl, ?_⟩) (by assumption) ?_; rotate_left; (intro w hSw; (try dsimp only at hSw); go_simp); (try with_reducible rfl); (try simp only [Act.put, List.setIfInBounds_toArray, List.set_cons_zero, List.set_cons_succ])
      refine reg_take (v := ?_) 25 rfl (by kernel_rfl) (by kernel_rfl) (by kernel_rfl) (fun _ _ _ h => h) (Or.inl ⟨by rfl, ?_⟩) (by assumption) ?_; rotate_left; (intro w hSw; (try dsimp only at hSw); go_simp); (try with_reducible rfl); (try simp only [Act.put, List.setIfInBounds_toArray, List.set_cons_zero, List.set_cons_succ])
      refine wpAnyH_done (by kernel_rfl) ?_ _
      clear p0 p1 p2 p3 p4 p5 hHeld
      obtain ⟨p0, p1, _, _⟩ := two_facts Xa.out
      have hSa := hid (fun W (k : HubSp W la ga HJ Da ma) (k2 : ga ≤ W.heap.size) => k.spoil sJ.out ca k2)
      have hSr := hid (fun W k (k2 : gr ≤ W.heap.size) => spoil_sp (h := HT) (w := W) (lo := lr) (hi := gr) (m := mr) (D := Dr) k sT.out hmr.out cr k2)
      go_wp2_with (first
        | ((with_reducible refine (hSa.out _ Sa.out (Nat.le_of_lt hia.out)).mono ?_); rintro e x1 ⟨⟨z1, rfl⟩, hC⟩; have HB := hid (HB.out.trans (hC.below HB.out.size (fun b e => Nat.le_trans loa.out e.1))); have Sr' := hid (Sr.out.chg hC (fun b hb e => by have := e.2; have := lra.out; omega)); have Xr := hid (hC.blk Xr.out (fun e => by have := e.2; have := lra.out; have := lrr.out; omega)); have hir := hid (Nat.lt_of_lt_of_le hir.out hC.size); clear p0 p1 hC; obtain ⟨p0, p1, _, _⟩ := two_facts Xr.out)
        | ((with_reducible refine (hSr.out _ Sr'.out (Nat.le_of_lt hir.out)).mono ?_); rintro e x2 ⟨⟨z2, rfl⟩, hC⟩; have HB := hid (HB.out.trans (hC.below HB.out.size (fun b e => Nat.le_trans lor.out e.1))); clear p0 p1 hC; obtain ⟨p0, p1, _, _⟩ := two_facts (Xn.out.belowS HB.out); obtain ⟨p2, p3, _, _⟩ := two_facts (Xh.out.belowS HB.out))
        | ((with_reducible refine (hSm5.out _ (Rn.out.below HB.out) (Rh.out.below HB.out)).mono ?_); rintro e x3 ⟨rfl, hb1⟩; have HB := hid (below_chain HB.out hb1)))
      go_ret
      exact ⟨rfl, below_chain Y.out HB.out⟩
    · go_wp2
      go_ret
      exact ⟨rfl, Y.out⟩
  · go_wp2
    go_ret
    exact ⟨rfl, Y.out⟩
namespace hubDoes
theorem hubDoes_law {W : World} (a0 : Int) (b0 : Option Addr) (n0 c0 : Nat) (l0 : List RS) (w0 : HRd W b0 n0 l0) (a1 : Int) (b1 : Option Addr) (n1 c1 : Nat) (l1 : List RS) (w1 : HRd W b1 n1 l1) (a2 : Int) (w2 : (Lit.int .i64 a2).wf = true) (a3 : Int) (w3 : (Lit.int .i64 a3).wf = true) (a4 : Int) (w4 : (Lit.int .i64 a4).wf = true) (a5 : Ev) (w5 : HdOk a5.2.2) (hG : GOk W) :
    Calls Tryd.prog 6 #[.agg #[.int .i64 a0, .slice b0 n0 c0], .agg #[.int .i64 a1, .slice b1 n1 c1], .int .i64 a2, .int .i64 a3, .int .i64 a4, .agg (evL a5).toArray] W fun e w' => e = .returned (.bool true) ∧ Below W.heap.size W w' :=
  does_any (a0, subs l0) (a1, subs l1) b0 b1 n0 n1 c0 c1 a2 a3 a4 a5 w5 W ⟨l0, w0, rfl⟩ ⟨l1, w1, rfl⟩ hG
end hubDoes
end Go.Proofs.YtmepbokoopgmiaaDoor
