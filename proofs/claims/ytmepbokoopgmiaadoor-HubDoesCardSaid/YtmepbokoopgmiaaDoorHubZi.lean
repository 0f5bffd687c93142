/-
  Contract of the reference's Told of a hub. No condition beyond those each theorem names.
-/
import Derived.Test.YtmepbokoopgmiaaDoorHubZh
namespace Go.Proofs.YtmepbokoopgmiaaDoor
open Go.RowKit
set_option linter.unusedSimpArgs false
set_option linter.unusedVariables false

/-- What With makes of a subscriber. -/
def toldST (room : Int) (e : Ev) (s : Sub) : Sub := if s.2.1 < e.1 then (s.1, s.2.1, (withT s.2.2.1 s.2.2.2 room e).1, (withT s.2.2.1 s.2.2.2 room e).2) else s
theorem withT_ok {xs : List It} (ho : ItsOk xs) (l : Bool) (room : Int) (e : Ev) (he : HdOk e.2.2) : ItsOk (withT xs l room e).1 := by
  have h2 : ItsOk (xs ++ [gapIt, (false, e)]) := fun x hx => by
    simp at hx
    rcases hx with h | rfl | rfl
    · exact ho x h
    · exact gapIt_ok
    · exact he
  have h1 : ItsOk (xs ++ [(false, e)]) := fun x hx => by
    simp at hx
    rcases hx with h | rfl
    · exact ho x h
    · exact he
  unfold withT
  repeat' split
  all_goals first | exact ho | exact h1 | exact h2

set_option maxRecDepth 100000 in
set_option maxHeartbeats 8000000 in
theorem told24_any (h : Hub) (A : Option Addr) (n c : Nat) (room : Int) (e : Ev) (he : HdOk e.2.2) (w : World) (hh : HubIn w h A n) (hn : n ≤ 1000) (hs : ∀ s ∈ h.2, s.2.2.1.length ≤ 1000) :
    Calls Tryd.prog 42 #[.agg #[.int .i64 h.1, .slice A n c], .int .i64 room, .agg (evL e).toArray] w (GivesH w (h.1, h.2.map (toldST room e))) := by
  have hT := hid (fun W (k : HubIn W h A n) => twin24_any h A n c W k hn hs)
  unfold GivesH at hT
  have hPu := hid (fun A n c lost xs ho W h (hn : n ≤ 1000) => with23_any A n c lost xs ho room e he W h hn)
  have hok := hid (fun xs l (ho : ItsOk xs) => withT_ok ho l room e he)
  have HH := hid hh
  have hl := hid hh.len
  have hits := hid hs
  have hszE := ev_sizeA e he
  have hszL := ev_size e he
  have hu34 := Tryd.underlying34
  have hE0 : (evL e).toArray[0]? = some (.int .i64 e.1) := rfl
  obtain ⟨f, hf⟩ : ∃ f : Sub → Sub, f = toldST room e := ⟨_, rfl⟩
  have HF := hid hf
  rw [← hf]
  clear hf hh hs
  obtain ⟨nx, ss⟩ := h
  try dsimp only at *
  generalize hEL : evL e = EL at *
  have HEL := hid hEL
  clear hEL
  go_enter Tryd.func42, Tryd.ntmps42
  go_upto_region 2 with (first
    | (refine wpList_bx rfl 24 _ rfl #[.int .i64 nx, .slice A n c] rfl ?_; intro w1 hB1 hb1 hy; have hz1 := hid hy; clear hy)
    | (refine wpList_bx rfl 34 _ rfl EL.toArray rfl ?_; intro w2 hB2 hb2 hy; have hz2 := hid hy; clear hy)
    | ((with_reducible refine at_alloc (d := some 6) 24 ?_); refine wpList_al rfl 24 rfl _ (hub_zero _) ?_; intro w3 hB3 hb3 hy; have hz3 := hid hy; clear hy; have X0 := hid (below_chain (below_chain hb1 hb2) hb3); have X1 := hid ((hB1.belowS hb2).belowS hb3); have X2 := hid (hB2.belowS hb3); have X3 := hid hB3; obtain ⟨a0, a1, a2, a3⟩ := two_facts X1.out)
    | ((with_reducible refine (hT.out _ (HH.out.below X0.out)).mono ?_); rintro e w8 ⟨D, m, d, rs', rfl, hsub, hO, hb8⟩)
    | ((with_reducible refine at_alloc (d := some 7) 24 ?_); refine wpList_al rfl 24 rfl _ (hub_zero _) ?_; intro w9 hB9 hb9 hy; clear hy)
    | ((with_reducible refine at_store (x := .tmp 7) 24 ?_); refine wpList_str rfl 24 _ _ rfl w8.heap.size _ rfl rfl _ _ hB9 rfl (hub_size _ _) (one_hub _ _ _ _) ?_; intro w10 B9 hg10 hy; clear hy))
  have q10 : Below w8.heap.size w8 w10 := hb9.grown hg10 hb9.size (by intro k e; cases e; exact Nat.le_refl _)
  have q := below_chain hb8 q10
  have l1 := hid (show w.heap.size < w1.heap.size by have := hz1.out; omega)
  have l2 := hid (show w1.heap.size < w2.heap.size by have := hz2.out; omega)
  have l3 := hid (show w2.heap.size < w3.heap.size by have := hz3.out; omega)
  have l4 := hid hb8.size
  have l5 := hid B9.lt
  have hml := hid (show m = ss.length by rw [← hsub]; have := hO.len; simp [subs] at *; omega)
  have hA9 := hO.apart (g := w8.heap.size) (Nat.le_refl _)
  have hO6 := hO.below q10
  have X2 := X2.out.belowS q
  have X3 := X3.out.belowS q
  have X0 := below_chain X0.out q
  have h0 : subs rs' = (ss.take 0).map f ++ ss.drop 0 := by simpa using hsub
  have hssn : ss.length = n := hl.out
  have hm1k : m ≤ 1000 := by have := hml.out; omega
  clear a0 a1 a2 a3 hB1 hb1 hB2 hb2 hB3 hb3 hz1 hz2 hz3 X1 hO hb8 hB9 hb9 hg10 q10 q hsub
  generalize w1.heap.size = ge at *
  generalize w2.heap.size = g2 at *
  generalize w8.heap.size = g9 at *
  generalize w3.heap.size = lo at *
  go_wp2_with fail
  go_loopw [8] (fun i wx => ∃ (k : Nat) (rk : List RS), k ≤ m ∧ i = .int .i64 k ∧ Blk wx g9 24 #[.int .i64 nx, .slice D m d] ∧ HOwn wx lo D m d rk ∧ HApart g9 D d rk ∧ subs rk = (ss.take k).map f ++ ss.drop k ∧ Blk wx ge 34 EL.toArray ∧ Blk wx g2 24 #[.int .i64 0, .slice none 0 0] ∧ Below w.heap.size w wx) (fun i _ => m - (intOf i).toNat)
  case atStart => exact ⟨0, rs', Nat.zero_le _, rfl, B9, hO6, hA9, h0, X2, X3, X0⟩
  case round =>
    clear h0 B9 hO6 hA9 X2 X3 X0
    obtain ⟨k, rk, hk, rfl, hB, hO, hA, hS, hE, hZ, hb⟩ := hrel
    obtain ⟨d0, d1, d2, d3⟩ := two_facts hB
    have HB := hid hB
    have HO := hid hO
    have HA := hid hA
    have HSk := hid hS
    have HE := hid hE
    have HZ := hid hZ
    have Hb := hid hb
    clear hB hO hA hS hE hZ hb
    have htz : (0 : Int) ≤ (k : Int) := by omega
    by_cases hlt : k < m
    · have hltH := hid hlt
      have hx : rk[k]? = some (rk[k]'(by have := HO.out.len; omega)) := List.getElem?_eq_getElem _
      generalize rk[k]'(by have := HO.out.len; omega) = r at hx
      obtain ⟨g, hD, hrow, hlg, hgl⟩ := HO.out.1.base (by omega)
      subst hD
      have hsx : ss[k]? = some r.1 := by
        have h1 : (subs rk)[k]? = some r.1 := by simp [subs, hx]
        rw [HSk.out, tell_at f (by have := hml.out; omega)] at h1
        exact h1
      have hri := hid (HO.out.2 r (List.mem_of_getElem? hx)).at_
      have hlen := hits.out r.1 (List.mem_of_getElem? hsx)
      have hml' : r.2.2.1 ≤ 1000 := by have := rd_len hri.out.1 hri.out.2; omega
      obtain ⟨t0, t1, t2, t3, f0, f1, f2, f3⟩ := HO.out.1.tapAt hx
      have HX := hid hx
      have HSX := hid hsx
      have hti : (k : Int) < (m : Int) := by omega
      have hPr := hid (fun W (h : SubAt W r) => hPu.out r.2.1 r.2.2.1 r.2.2.2 r.1.2.2.2 r.1.2.2.1 h.1 W h.2 hml')
      have hfr : f r.1 = if r.1.2.1 < e.1 then (r.1.1, r.1.2.1, (withT r.1.2.2.1 r.1.2.2.2 room e).1, (withT r.1.2.2.1 r.1.2.2.2 room e).2) else r.1 := by rw [HF.out]; rfl
      have HFR := hid hfr
      have hpok := hok.out r.1.2.2.1 r.1.2.2.2 hri.out.1
      have e5 : wr.cell? ⟨ge, 0, none⟩ = some (.int .i64 e.1) := HE.out.cellv hE0
      clear hx hsx hlen hfr f0 f1
      obtain ⟨⟨id, fr, its, lost⟩, F, mf, cf⟩ := r
      try dsimp only at *
      go_wp2_with fail
      have d1' : wr.drew.cell? ⟨g9, 1, none⟩ = some (.slice (some ⟨g, 0, none⟩) m d) := d1
      have t1' : wr.drew.cell? ⟨g, k * 4 + 1, none⟩ = some (.int .i64 fr) := t1
      have e5' : wr.drew.cell? ⟨ge, 0, none⟩ = some (.int .i64 e.1) := e5
      refine wp_region_held_drew (S := (fun w' => w'.cell? ⟨g9, 1, none⟩ = some (.slice (some ⟨g, 0, none⟩) m d) ∧ w'.cell? ⟨g, k * 4 + 1, none⟩ = some (.int .i64 fr) ∧ w'.cell? ⟨ge, 0, none⟩ = some (.int .i64 e.1))) (by kernel_rfl) ⟨d1', t1', e5'⟩ (fun hHeld => ?_)
      refine reg_take (v := ?_) 0 rfl (by kernel_rfl) (by kernel_rfl) (by kernel_rfl) (fun _ _ _ h => h) (Or.inl ⟨by rfl, ?_⟩) (by assumption) ?_; rotate_left; (intro w hSw; (try dsimp only at hSw); go_simp); (try with_reducible rfl); (try simp only [Act.put, List.setIfInBounds_toArray, List.set_cons_zero, List.set_cons_succ])
      refine reg_take (v := ?_) 1 rfl (by kernel_rfl) (by kernel_rfl) (by kernel_rfl) (fun _ _ _ h => h) (Or.inl ⟨by rfl, ?_⟩) (by assumption) ?_; rotate_left; (intro w hSw; (try dsimp only at hSw); go_simp); (try with_reducible rfl); (try simp only [Act.put, List.setIfInBounds_toArray, List.set_cons_zero, List.set_cons_succ])
      refine reg_take (v := ?_) 2 rfl (by kernel_rfl) (by kernel_rfl) (by kernel_rfl) (fun _ _ _ h => h) (Or.inl ⟨by rfl, ?_⟩) (by assumption) ?_; rotate_left; (intro w hSw; (try dsimp only at hSw); go_simp); (try with_reducible rfl); (try simp only [Act.put, List.setIfInBounds_toArray, List.set_cons_zero, List.set_cons_succ])
      refine reg_take (v := ?_) 3 rfl (by kernel_rfl) (by kernel_rfl) (by kernel_rfl) (fun _ _ _ h => h) (Or.inl ⟨by rfl, ?_⟩) (by assumption) ?_; rotate_left; (intro w hSw; (try dsimp only at hSw); go_simp); (try with_reducible rfl); (try simp only [Act.put, List.setIfInBounds_toArray, List.set_cons_zero, List.set_cons_succ])
      refine reg_take (v := ?_) 4 rfl (by kernel_rfl) (by kernel_rfl) (by kernel_rfl) (fun _ _ _ h => h) (Or.inl ⟨by rfl, ?_⟩) (by assumption) ?_; rotate_left; (intro w hSw; (try dsimp only at hSw); go_simp); (try with_reducible rfl); (try simp only [Act.put, List.setIfInBounds_toArray, List.set_cons_zero, List.set_cons_succ])
      refine reg_take (v := ?_) 5 rfl (by kernel_rfl) (by kernel_rfl) (by kernel_rfl) (fun _ _ _ h => h) (Or.inl ⟨by rfl, ?_⟩) (by assumption) ?_; rotate_left; (intro w hSw; (try dsimp only at hSw); go_simp); (try with_reducible rfl); (try simp only [Act.put, List.setIfInBounds_toArray, List.set_cons_zero, List.set_cons_succ])
      refine reg_take (v := ?_) 6 rfl (by kernel_rfl) (by kernel_rfl) (by kernel_rfl) (fun _ _ _ h => h) (Or.inl ⟨by rfl, ?_⟩) (by assumption) ?_; rotate_left; (intro w hSw; (try dsimp only at hSw); go_simp); (try with_reducible rfl); (try simp only [Act.put, List.setIfInBounds_toArray, List.set_cons_zero, List.set_cons_succ])
      refine reg_take (v := ?_) 7 rfl (by kernel_rfl) (by kernel_rfl) (by kernel_rfl) (fun _ _ _ h => h) (Or.inl ⟨by rfl, ?_⟩) (by assumption) ?_; rotate_left; (intro w hSw; (try dsimp only at hSw); go_simp); (try with_reducible rfl); (try simp only [Act.put, List.setIfInBounds_toArray, List.set_cons_zero, List.set_cons_succ])
      refine reg_take (v := ?_) 8 rfl (by kernel_rfl) (by kernel_rfl) (by kernel_rfl) (fun _ _ _ h => h) (Or.inl ⟨by rfl, ?_⟩) (by assumption) ?_; rotate_left; (intro w hSw; (try dsimp only at hSw); go_simp); (try with_reducible rfl); (try simp only [Act.put, List.setIfInBounds_toArray, List.set_cons_zero, List.set_cons_succ])
      refine wpAnyH_done (by kernel_rfl) ?_ _
      have HB := hid HB.out.drew
      have HO := hid (HO.out.below (below_self_drew wr))
      have HE := hid HE.out.drew
      have HZ := hid HZ.out.drew
      have Hb := hid (below_drew1 Hb.out)
      have hri := hid (hri.out.below (below_self_drew wr))
      have hgl : g < wr.drew.heap.size := hgl
      have t2 : wr.drew.cell? ⟨g, k * 4 + 2, none⟩ = some (.slice F mf cf) := t2
      have t3 : wr.drew.cell? ⟨g, k * 4 + 3, none⟩ = some (.bool lost) := t3
      clear d0 d1 d2 d3 t0 t1 e5 t1' e5' d1' f2 f3 hHeld
      generalize wr.drew = v5 at *
      obtain ⟨d0, d1, d2, d3⟩ := two_facts HB.out
      by_cases hcmp : fr < e.1
      · rw [if_pos hcmp] at HFR
        go_wp2_with fail
        have SA := hri.out.below (below_self_drew v5)
        have hg95 := HB.out.lt
        have hne9 : g9 ≠ g := fun e => HA.out.1 (by rw [hrow, e])
        have hlov : lo ≤ v5.heap.size := by omega
        have hr0 := HE.out.drew.range0
        have hPq := hPr
        unfold GivesW at hPq
        clear hPr
        generalize withT its lost room e = pt at *
        obtain ⟨pxs, pl'⟩ := pt
        try dsimp only at *
        refine wp_region_F_drew 14 (S := (fun w' => w'.cell? ⟨g9, 1, none⟩ = some (.slice (some ⟨g, 0, none⟩) m d) ∧ w'.cell? ⟨g, k * 4 + 2, none⟩ = some (.slice F mf cf) ∧ w'.cell? ⟨g, k * 4 + 3, none⟩ = some (.bool lost) ∧ w'.rangeAt ge 0 EL)) (by kernel_rfl) ⟨d1, t2, t3, hr0⟩ (fun hHeld => ?_)
        refine regF_take (v := ?_) 0 (by kernel_rfl) (by rfl) rfl (by kernel_rfl) (by kernel_rfl) (by kernel_rfl) (fun _ _ _ h => h) (Or.inl ⟨by rfl, ?_⟩) (by assumption) ?_; rotate_left; (intro w hSw; (try dsimp only at hSw); go_simp); (try with_reducible rfl); (try simp only [Act.put, List.setIfInBounds_toArray, List.set_cons_zero, List.set_cons_succ])
        refine regF_take (v := ?_) 1 (by kernel_rfl) (by rfl) rfl (by kernel_rfl) (by kernel_rfl) (by kernel_rfl) (fun _ _ _ h => h) (Or.inl ⟨by rfl, ?_⟩) (by assumption) ?_; rotate_left; (intro w hSw; (try dsimp only at hSw); go_simp); (try with_reducible rfl); (try simp only [Act.put, List.setIfInBounds_toArray, List.set_cons_zero, List.set_cons_succ])
        refine regF_take (v := ?_) 2 (by kernel_rfl) (by rfl) rfl (by kernel_rfl) (by kernel_rfl) (by kernel_rfl) (fun _ _ _ h => h) (Or.inl ⟨by rfl, ?_⟩) (by assumption) ?_; rotate_left; (intro w hSw; (try dsimp only at hSw); go_simp); (try with_reducible rfl); (try simp only [Act.put, List.setIfInBounds_toArray, List.set_cons_zero, List.set_cons_succ])
        refine regF_take (v := ?_) 3 (by kernel_rfl) (by rfl) rfl (by kernel_rfl) (by kernel_rfl) (by kernel_rfl) (fun _ _ _ h => h) (Or.inl ⟨by rfl, ?_⟩) (by assumption) ?_; rotate_left; (intro w hSw; (try dsimp only at hSw); go_simp); (try with_reducible rfl); (try simp only [Act.put, List.setIfInBounds_toArray, List.set_cons_zero, List.set_cons_succ])
        refine regF_take (v := ?_) 4 (by kernel_rfl) (by rfl) rfl (by kernel_rfl) (by kernel_rfl) (by kernel_rfl) (fun _ _ _ h => h) (Or.inl ⟨by rfl, ?_⟩) (by assumption) ?_; rotate_left; (intro w hSw; (try dsimp only at hSw); go_simp); (try with_reducible rfl); (try simp only [Act.put, List.setIfInBounds_toArray, List.set_cons_zero, List.set_cons_succ])
        refine regF_take (v := ?_) 5 (by kernel_rfl) (by rfl) rfl (by kernel_rfl) (by kernel_rfl) (by kernel_rfl) (fun _ _ _ h => h) (Or.inl ⟨by rfl, ?_⟩) (by assumption) ?_; rotate_left; (intro w hSw; (try dsimp only at hSw); go_simp); (try with_reducible rfl); (try simp only [Act.put, List.setIfInBounds_toArray, List.set_cons_zero, List.set_cons_succ])
        refine regF_take (v := ?_) 6 (by kernel_rfl) (by rfl) rfl (by kernel_rfl) (by kernel_rfl) (by kernel_rfl) (fun _ _ _ h => h) (Or.inl ⟨by rfl, ?_⟩) (by assumption) ?_; rotate_left; (intro w hSw; (try dsimp only at hSw); go_simp); (try with_reducible rfl); (try simp only [Act.put, List.setIfInBounds_toArray, List.set_cons_zero, List.set_cons_succ])
        refine regF_take (v := ?_) 7 (by kernel_rfl) (by rfl) rfl (by kernel_rfl) (by kernel_rfl) (by kernel_rfl) (fun _ _ _ h => h) (Or.inl ⟨by rfl, ?_⟩) (by assumption) ?_; rotate_left; (intro w hSw; (try dsimp only at hSw); go_simp); (try with_reducible rfl); (try simp only [Act.put, List.setIfInBounds_toArray, List.set_cons_zero, List.set_cons_succ])
        refine regF_take (v := ?_) 8 (by kernel_rfl) (by rfl) rfl (by kernel_rfl) (by kernel_rfl) (by kernel_rfl) (fun _ _ _ h => h) (Or.inl ⟨by rfl, ?_⟩) (by assumption) ?_; rotate_left; (intro w hSw; (try dsimp only at hSw); go_simp); (try with_reducible rfl); (try simp only [Act.put, List.setIfInBounds_toArray, List.set_cons_zero, List.set_cons_succ])
        refine regF_take (v := ?_) 9 (by kernel_rfl) (by rfl) rfl (by kernel_rfl) (by kernel_rfl) (by kernel_rfl) (fun _ _ _ h => h) (Or.inl ⟨by rfl, ?_⟩) (by assumption) ?_; rotate_left; (intro w hSw; (try dsimp only at hSw); go_simp); (try with_reducible rfl); (try simp only [Act.put, List.setIfInBounds_toArray, List.set_cons_zero, List.set_cons_succ])
        refine regF_take 10 (by kernel_rfl) (by rfl) rfl (by kernel_rfl) (by kernel_rfl) (by kernel_rfl) (fun _ _ _ h => h) (yieldsIf_load_mid (by rfl) _ _ rfl _ _ rfl _ _ (by intro w hSw; (try dsimp only at hSw); go_split_ands; assumption) (by assumption) (by rfl) (by assumption)) (by assumption) ?_; (try simp only [Act.put, List.setIfInBounds_toArray, List.set_cons_zero, List.set_cons_succ])
        refine regF_only 11 rfl (by kernel_rfl) (fun K hK => ?_); go_simp; refine (hPq.out _ SA).mono ?_; rintro e' w5' ⟨D', m', c', rfl, hF5, hb5⟩; have hbd := below_chain (below_self_drew v5) hb5; obtain ⟨p0, p1, p2, p3⟩ := two_facts (HB.out.belowS hbd); have qe := (HE.out.belowS hbd).range0; obtain ⟨_, _, t2, t3, _, _, f2, f3⟩ := (HO.out.below hbd).1.tapAt HX.out; refine hK.out _ _ ?_ (fun hHeld => ?_); (exact ⟨p1, t2, t3, qe⟩); clear hK K; (try simp only [Act.put, List.setIfInBounds_toArray, List.set_cons_zero, List.set_cons_succ])
        refine regF_takeT (v := ?_) 12 (by decide) rfl (by kernel_rfl) (by kernel_rfl) (by kernel_rfl) (fun _ _ _ h => h) (Or.inl ⟨by rfl, ?_⟩) (by assumption) ?_; rotate_left; (intro w hSw; clear hSw; go_simp); (try with_reducible rfl); (try simp only [Act.put, List.setIfInBounds_toArray, List.set_cons_zero, List.set_cons_succ])
        refine regF_takeT (v := ?_) 13 (by decide) rfl (by kernel_rfl) (by kernel_rfl) (by kernel_rfl) (fun _ _ _ h => h) (Or.inl ⟨by rfl, ?_⟩) (by assumption) ?_; rotate_left; (intro w hSw; clear hSw; go_simp); (try with_reducible rfl); (try simp only [Act.put, List.setIfInBounds_toArray, List.set_cons_zero, List.set_cons_succ])
        refine regF_last 14 rfl rfl (by kernel_rfl) (fun K hK => ?_); go_simp; skip; refine hK.out _ _ (fun _ => ?_); clear hK K; (try simp only [Act.put, List.setIfInBounds_toArray, List.set_cons_zero, List.set_cons_succ])
        refine wpAnyF_done (by kernel_rfl) ?_ _
        have hF5' : Fr w5' v5.heap.size 101 D' m' (itsL pxs) := hF5
        have hCg := tap_set_chg w5' g (k * 4 + 2) (k * 4 + 2 + 1) (.slice D' m' c') (.bool pl')
        have H1 := hid (hown_settap (l := pl') (c' := c') HO.out hrow HX.out hbd hlov hgl hpok hF5')
        have H2 := hid (hapart_set (k := k) (c' := c') (s := (id, fr, pxs, pl')) HA.out hF5' hg95)
        have H3 := hid (hCg.blk (HB.out.belowS hbd) hne9)
        have H4 := hid (hCg.blk (HE.out.belowS hbd) (by have := l2.out; have := l3.out; omega))
        have H5 := hid (hCg.blk (HZ.out.belowS hbd) (by have := l3.out; omega))
        have H6 := hid (below_of_chg (below_chain Hb.out hbd) hCg (fun b e => by have e2 : b = g := e; have := l1.out; have := l2.out; have := l3.out; omega))
        generalize (w5'.setCell ⟨g, k * 4 + 2, none⟩ (.slice D' m' c')).setCell ⟨g, k * 4 + 2 + 1, none⟩ (.bool pl') = w6 at *
        clear p0 p1 p2 p3 qe t2 t3 f2 f3 hHeld hb5 hbd hF5 hF5' hCg HB HE HO hr0 SA
        go_wp2_with fail
        refine ⟨⟨k + 1, _, by have := hltH.out; omega, by go_num, H3.out, H1.out, H2.out, ?_, H4.out, H5.out, H6.out⟩, by have := hltH.out; simp [intOf]; omega⟩
        rw [subs_set, HSk.out, ← HFR.out]
        exact tell_set f HSX.out
      · rw [if_neg hcmp] at HFR
        go_wp2_with fail
        refine ⟨⟨k + 1, rk, by have := hltH.out; omega, by go_num, HB.out, HO.out, HA.out, ?_, HE.out, HZ.out, Hb.out⟩, by have := hltH.out; simp [intOf]; omega⟩
        have h3 := tell_keep f HSX.out
        rw [HFR.out] at h3
        rw [HSk.out, tell_split f HSX.out, h3]
    · obtain rfl : k = m := by omega
      have hti : ¬ (k : Int) < (k : Int) := by omega
      obtain ⟨c0, c1, c2, c3⟩ := two_facts HZ.out
      have n1 : g2 ≠ g9 := by have := l3.out; have := l4.out; omega
      go_wp2_with fail
      have B := HZ.out.both (c := .int .i64 nx) (d := .slice D k d)
      have hCg := chg_both wr g2 (.int .i64 nx) (.slice D k d)
      have hOf := HO.out.chg hCg (fun b hb e => by have e2 : b = g2 := e; have := l3.out; omega)
      have hbf := below_both (g := g2) Hb.out (.int .i64 nx) (.slice D k d) (by have := l1.out; have := l2.out; omega)
      generalize (wr.setCell ⟨g2, 0, none⟩ (.int .i64 nx)).setCell ⟨g2, 1, none⟩ (.slice D k d) = wf at *
      obtain ⟨g0, g1, _, _⟩ := two_facts B
      refine bodyPost_ret (v := .agg #[.int .i64 nx, .slice D k d]) (by simp [results, Tryd.f42, go_sem, g0, g1]) rfl ⟨D, k, d, rk, rfl, ?_, hOf.low (by have := l1.out; have := l2.out; have := l3.out; omega), hbf⟩
      rw [HSk.out, hml.out, List.take_length, List.drop_length, List.append_nil]
end Go.Proofs.YtmepbokoopgmiaaDoor
