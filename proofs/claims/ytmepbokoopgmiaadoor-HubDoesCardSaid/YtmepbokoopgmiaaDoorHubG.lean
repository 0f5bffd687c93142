/-
  Contracts of what Leave and Poll hand to hub.turned. The gap stands in its variable.
-/
import Derived.Test.YtmepbokoopgmiaaDoorHubF
import Derived.Test.YtmepbokoopgmiaaDoorHubK
import Derived.Test.YtmepbokoopgmiaaDoorRegA
namespace Go.Proofs.YtmepbokoopgmiaaDoor
open Go.RowKit
set_option linter.unusedSimpArgs false
set_option linter.unusedVariables false

/-- A subscriber's tap written anew, in a hub of the call's own. -/
theorem hown_settap {W w5 : World} {lo g m d k : Nat} {rs : List RS} {r : RS} {xs : List It} {l : Bool} {D' : Option Addr} {m' c' : Nat} (hO : HOwn W lo (some ⟨g, 0, none⟩) m d rs) (hrow : rowOf (some ⟨g, 0, none⟩) d = some g) (hx : rs[k]? = some r) (hb : Below W.heap.size W w5) (hlo : lo ≤ W.heap.size) (hg : g < W.heap.size) (ho : ItsOk xs)
    (hF : Fr w5 W.heap.size 101 D' m' (itsL xs)) : HOwn ((w5.setCell ⟨g, k * 4 + 2, none⟩ (.slice D' m' c')).setCell ⟨g, k * 4 + 2 + 1, none⟩ (.bool l)) lo (some ⟨g, 0, none⟩) m d (rs.set k ((r.1.1, r.1.2.1, xs, l), D', m', c')) := by
  have hC := tap_set_chg w5 g (k * 4 + 2) (k * 4 + 2 + 1) (.slice D' m' c') (.bool l)
  refine ⟨?_, fun q hq => ?_⟩
  · have := rssL_set rs k r ((r.1.1, r.1.2.1, xs, l), D', m', c') hx rfl rfl
    rw [← this]
    exact ((hO.1.below hb).set _ _).set _ _
  · rw [hrow]
    rcases List.mem_or_eq_of_mem_set hq with hq | rfl
    · have := (hO.2 q hq).below hb
      rw [hrow] at this
      exact this.chg hC (fun b _ e => by rw [e])
    · refine ⟨ho, (hF.low hlo).keepB (by omega) hC fun hm b o e hbad => ?_, fun hm b o e e2 => ?_⟩
      · simp only at e hm
        obtain ⟨b', o', e', hl, _⟩ := hF.1.2 (by omega)
        rw [e] at e'
        cases e'
        omega
      · simp only at e hm
        obtain ⟨b', o', e', hl, _⟩ := hF.1.2 (by omega)
        rw [e] at e'
        cases e'
        have := Option.some.inj e2
        omega
theorem hapart_set {w5 : World} {B gh d k m' c' : Nat} {D D' : Option Addr} {rs : List RS} {s : Sub} {L : List Value} (hA : HApart gh D d rs) (hF : Fr w5 B 101 D' m' L) (hg : gh < B) : HApart gh D d (rs.set k (s, D', m', c')) := by
  refine ⟨hA.1, fun q hq hm b o e => ?_⟩
  rcases List.mem_or_eq_of_mem_set hq with hq | rfl
  · exact hA.2 q hq hm b o e
  · simp only at hm e
    obtain ⟨b', o', e', hl, _⟩ := hF.1.2 (by omega)
    rw [e] at e'
    cases e'
    omega
theorem subs_erase (rs : List RS) (k : Nat) : subs (rs.eraseIdx k) = (subs rs).eraseIdx k := by
  induction rs generalizing k with
  | nil => rfl
  | cons r rs ih =>
    cases k with
    | zero => rfl
    | succ k =>
      have := ih k
      simp only [subs, List.map_cons, List.eraseIdx_cons_succ] at this ⊢
      rw [this]
set_option maxRecDepth 100000 in
set_option maxHeartbeats 4000000 in
theorem leaveF_any (nx : Int) (W : World) (lo gh : Nat) (D : Option Addr) (m d k : Nat) (rs : List RS) (extra : Nat → Prop) (hB : Blk W gh 24 #[.int .i64 nx, .slice D m d]) (hO : HOwn W lo D m d rs) (hA : HApart gh D d rs) (hlo : lo ≤ gh) (hk : k < m) (hm : m ≤ 16) :
    Calls Tryd.prog 31 #[.pointer (some ⟨gh, 0, none⟩), .int .i64 k] W (DoPost W lo gh nx extra (fun _ => True) ((subs rs).eraseIdx k) 0) := by
  obtain ⟨g, rfl, hrow, hlg, hgl⟩ := hO.1.base (by omega)
  have hne : gh ≠ g := fun e => hA.1 (by rw [hrow, e])
  obtain ⟨a0, a1, a2, a3⟩ := two_facts hB
  have hD := hid (delete_any g m d k lo rs W hO.1 hk)
  have HO := hid hO
  have HA := hid hA
  have HB := hid hB
  clear hO hA hB
  go_enter Tryd.func31, Tryd.ntmps31
  go_wp2_with ((with_reducible refine hD.out.mono ?_); rintro e w2 ⟨rfl, hO2, hc2⟩; have hB2 := hc2.blk HB.out hne; obtain ⟨b0, b1, b2, b3⟩ := two_facts hB2)
  go_ret
  have hCg : Chg w2 (w2.setCell ⟨gh, 1, none⟩ (.slice (some ⟨g, 0, none⟩) (m - 1) d)) (fun b => b = gh) := (Chg.refl w2 _).setCell (g := gh) (i := 1) _ (.inl rfl)
  have hA2 : HApart gh (some ⟨g, 0, none⟩) d (rs.eraseIdx k) := ⟨HA.out.1, fun r hr => HA.out.2 r (List.mem_of_mem_eraseIdx hr)⟩
  have hH2 : HOwn w2 lo (some ⟨g, 0, none⟩) (m - 1) d (rs.eraseIdx k) := ⟨hO2, fun r hr => by
    rw [hrow]
    have := HO.out.2 r (List.mem_of_mem_eraseIdx hr)
    rw [hrow] at this
    exact this.chg hc2 (fun b _ e => by rw [e])⟩
  exact ⟨rfl, (hc2.trans hCg (bad := fun b => lo ≤ b ∨ extra b) (fun b e => .inl (by omega)) (fun b _ e => .inl (by omega))), trivial, fun _ => ⟨_, m - 1, d, rs.eraseIdx k, hB2.set_ 1 _, hH2.chgA hA2 hCg, hA2, subs_erase rs k⟩⟩

set_option maxRecDepth 100000 in
set_option maxHeartbeats 4000000 in
theorem pollF_any (nx : Int) (W : World) (lo gh gx : Nat) (D : Option Addr) (m d k : Nat) (rs : List RS) (C : Array Value) (hC : C.size = 101) (hB : Blk W gh 24 #[.int .i64 nx, .slice D m d]) (hX : Blk W gx 36 C) (hO : HOwn W lo D m d rs) (hA : HApart gh D d rs) (hlo : lo ≤ gh) (hgx : gx < lo) (hk : k < m) (hm : m ≤ 16) (hG : GOk W) (s : Sub) (hs : (subs rs)[k]? = some s) (hl : s.2.2.1.length ≤ 1000) :
    Calls Tryd.prog 29 #[.pointer (some ⟨gh, 0, none⟩), .int .i64 k, .pointer (some ⟨gx, 0, none⟩)] W (DoPost W lo gh nx (fun b => b = gx) (fun w' => Blk w' gx 36 (itL (pollST s).2.1).toArray) ((subs rs).set k (pollST s).1) (pollST s).2.2) := by
  obtain ⟨g, rfl, hrow, hlg, hgl⟩ := hO.1.base (by omega)
  have hne : gh ≠ g := fun e => hA.1 (by rw [hrow, e])
  have hx : rs[k]? = some (rs[k]'(by have := hO.len; omega)) := List.getElem?_eq_getElem _
  generalize rs[k]'(by have := hO.len; omega) = r at hx
  have hrs : r.1 = s := by
    have : (subs rs)[k]? = some r.1 := by simp [subs, hx]
    rw [this] at hs
    exact Option.some.inj hs
  subst hrs
  obtain ⟨ho, hri⟩ := (hO.2 r (List.mem_of_getElem? hx)).at_
  have hP := hid (fun W' h k => poll_any r.2.1 r.2.2.1 r.2.2.2 r.1.2.2.2 r.1.2.2.1 ho W' h (by have := rd_len ho hri; omega) k)
  have oI := pollT_itok ho r.1.2.2.2
  have oX := pollT_ok ho r.1.2.2.2
  have hsI := it_sizeA _ oI
  have hCI : (itL (pollT r.1.2.2.1 r.1.2.2.2).2.2.1).toArray.size = C.size := by rw [hC, List.size_toArray, itL_len _ oI]
  have hsC : (Tryd.prog.info? 36).map (·.size) = some C.size := by rw [hsI, hCI]
  have honeI := hid (it_one (pollT r.1.2.2.1 r.1.2.2.2).2.2.1)
  have HO := hid hO
  have HA := hid hA
  have HB := hid hB
  have HX := hid hX
  have HG := hid hG
  have HR := hid hri
  have hkx := hid hx
  have hpd : pollST r.1 = ((r.1.1, r.1.2.1, (pollT r.1.2.2.1 r.1.2.2.2).1, (pollT r.1.2.2.1 r.1.2.2.2).2.1), (pollT r.1.2.2.1 r.1.2.2.2).2.2.1, (pollT r.1.2.2.1 r.1.2.2.2).2.2.2) := rfl
  rw [hpd]
  clear hpd
  unfold GivesP at hP
  generalize pollT r.1.2.2.1 r.1.2.2.2 = p at *
  obtain ⟨pxs, pl, pit, per⟩ := p
  simp only at hP oI oX hsI hCI honeI ⊢
  obtain ⟨_, _, t2, t3, _, _, f2, f3⟩ := HO.out.1.tapAt hx
  have oXX := hid oX
  clear hO hA hB hX hG hri hx ho oI hl hs oX
  obtain ⟨⟨id, fr, its, lost⟩, E, ml, ec⟩ := r
  simp only at hP HR t2 t3 hkx ⊢
  obtain ⟨a0, a1, a2, a3⟩ := two_facts HB.out
  have hti : (k : Int) < (m : Int) := by omega
  have htz : (0 : Int) ≤ (k : Int) := by omega
  generalize hPL : (itL pit).toArray = PI at *
  go_enter Tryd.func29, Tryd.ntmps29
  go_wp2_with fail
  refine wp_region_F_drew 20 (S := (fun w' => w'.cell? ⟨gh, 1, none⟩ = some (.slice (some ⟨g, 0, none⟩) m d) ∧ w'.cell? ⟨g, k * 4 + 2, none⟩ = some (.slice E ml ec) ∧ w'.cell? ⟨g, k * 4 + 3, none⟩ = some (.bool lost))) (by kernel_rfl) ⟨a1, t2, t3⟩ (fun hHeld => ?_)
  refine regF_take (v := ?_) 0 (by kernel_rfl) (by rfl) rfl (by kernel_rfl) (by kernel_rfl) (by kernel_rfl) (fun _ _ _ h => h) (Or.inl ⟨by rfl, ?_⟩) (by assumption) ?_; rotate_left; (intro w hSw; (try dsimp only at hSw); go_simp); (try with_reducible rfl); (try simp only [Act.put, List.setIfInBounds_toArray, List.set_cons_zero, List.set_cons_succ])
  refine regF_take (v := ?_) 1 (by kernel_rfl) (by rfl) rfl (by kernel_rfl) (by kernel_rfl) (by kernel_rfl) (fun _ _ _ h => h) (Or.inl ⟨by rfl, ?_⟩) (by assumption) ?_; rotate_left; (intro w hSw; (try dsimp only at hSw); go_simp); (try with_reducible rfl); (try simp only [Act.put, List.setIfInBounds_toArray, List.set_cons_zero, List.set_cons_succ])
  refine regF_take (v := ?_) 2 (by kernel_rfl) (by rfl) rfl (by kernel_rfl) (by kernel_rfl) (by kernel_rfl) (fun _ _ _ h => h) (Or.inl ⟨by rfl, ?_⟩) (by assumption) ?_; rotate_left; (intro w hSw; (try dsimp only at hSw); go_simp); (try with_reducible rfl); (try simp only [Act.put, List.setIfInBounds_toArray, List.set_cons_zero, List.set_cons_succ])
  refine regF_take (v := ?_) 3 (by kernel_rfl) (by rfl) rfl (by kernel_rfl) (by kernel_rfl) (by kernel_rfl) (fun _ _ _ h => h) (Or.inl ⟨by rfl, ?_⟩) (by assumption) ?_; rotate_left; (intro w hSw; (try dsimp only at hSw); go_simp); (try with_reducible rfl); (try simp only [Act.put, List.setIfInBounds_toArray, List.set_cons_zero, List.set_cons_succ])
  refine regF_take (v := ?_) 4 (by kernel_rfl) (by rfl) rfl (by kernel_rfl) (by kernel_rfl) (by kernel_rfl) (fun _ _ _ h => h) (Or.inl ⟨by rfl, ?_⟩) (by assumption) ?_; rotate_left; (intro w hSw; (try dsimp only at hSw); go_simp); (try with_reducible rfl); (try simp only [Act.put, List.setIfInBounds_toArray, List.set_cons_zero, List.set_cons_succ])
  refine regF_take (v := ?_) 5 (by kernel_rfl) (by rfl) rfl (by kernel_rfl) (by kernel_rfl) (by kernel_rfl) (fun _ _ _ h => h) (Or.inl ⟨by rfl, ?_⟩) (by assumption) ?_; rotate_left; (intro w hSw; (try dsimp only at hSw); go_simp); (try with_reducible rfl); (try simp only [Act.put, List.setIfInBounds_toArray, List.set_cons_zero, List.set_cons_succ])
  refine regF_take (v := ?_) 6 (by kernel_rfl) (by rfl) rfl (by kernel_rfl) (by kernel_rfl) (by kernel_rfl) (fun _ _ _ h => h) (Or.inl ⟨by rfl, ?_⟩) (by assumption) ?_; rotate_left; (intro w hSw; (try dsimp only at hSw); go_simp); (try with_reducible rfl); (try simp only [Act.put, List.setIfInBounds_toArray, List.set_cons_zero, List.set_cons_succ])
  refine regF_take (v := ?_) 7 (by kernel_rfl) (by rfl) rfl (by kernel_rfl) (by kernel_rfl) (by kernel_rfl) (fun _ _ _ h => h) (Or.inl ⟨by rfl, ?_⟩) (by assumption) ?_; rotate_left; (intro w hSw; (try dsimp only at hSw); go_simp); (try with_reducible rfl); (try simp only [Act.put, List.setIfInBounds_toArray, List.set_cons_zero, List.set_cons_succ])
  refine regF_take (v := ?_) 8 (by kernel_rfl) (by rfl) rfl (by kernel_rfl) (by kernel_rfl) (by kernel_rfl) (fun _ _ _ h => h) (Or.inl ⟨by rfl, ?_⟩) (by assumption) ?_; rotate_left; (intro w hSw; (try dsimp only at hSw); go_simp); (try with_reducible rfl); (try simp only [Act.put, List.setIfInBounds_toArray, List.set_cons_zero, List.set_cons_succ])
  refine regF_take (v := ?_) 9 (by kernel_rfl) (by rfl) rfl (by kernel_rfl) (by kernel_rfl) (by kernel_rfl) (fun _ _ _ h => h) (Or.inl ⟨by rfl, ?_⟩) (by assumption) ?_; rotate_left; (intro w hSw; (try dsimp only at hSw); go_simp); (try with_reducible rfl); (try simp only [Act.put, List.setIfInBounds_toArray, List.set_cons_zero, List.set_cons_succ])
  refine regF_take (v := ?_) 10 (by kernel_rfl) (by rfl) rfl (by kernel_rfl) (by kernel_rfl) (by kernel_rfl) (fun _ _ _ h => h) (Or.inl ⟨by rfl, ?_⟩) (by assumption) ?_; rotate_left; (intro w hSw; (try dsimp only at hSw); go_simp); (try with_reducible rfl); (try simp only [Act.put, List.setIfInBounds_toArray, List.set_cons_zero, List.set_cons_succ])
  refine regF_take (v := ?_) 11 (by kernel_rfl) (by rfl) rfl (by kernel_rfl) (by kernel_rfl) (by kernel_rfl) (fun _ _ _ h => h) (Or.inl ⟨by rfl, ?_⟩) (by assumption) ?_; rotate_left; (intro w hSw; (try dsimp only at hSw); go_simp); (try with_reducible rfl); (try simp only [Act.put, List.setIfInBounds_toArray, List.set_cons_zero, List.set_cons_succ])
  refine regF_take (v := ?_) 12 (by kernel_rfl) (by rfl) rfl (by kernel_rfl) (by kernel_rfl) (by kernel_rfl) (fun _ _ _ h => h) (Or.inl ⟨by rfl, ?_⟩) (by assumption) ?_; rotate_left; (intro w hSw; (try dsimp only at hSw); go_simp); (try with_reducible rfl); (try simp only [Act.put, List.setIfInBounds_toArray, List.set_cons_zero, List.set_cons_succ])
  refine regF_only 13 rfl (by kernel_rfl) (fun K hK => ?_); go_simp; refine (hP.out _ (HR.out.below (below_self_drew _)) (HG.out.below (below_self_drew _))).mono ?_; rintro e w5 ⟨D', m', c', rfl, hF5, hb5⟩; have hbd := below_chain (below_self_drew W) hb5; obtain ⟨p0, p1, p2, p3⟩ := two_facts (HB.out.belowS hbd); obtain ⟨_, _, q2, q3, _, _, f2, f3⟩ := (HO.out.below hbd).1.tapAt hkx.out; refine hK.out _ _ ?_ (fun hHeld => ?_); (exact ⟨p1, q2, q3⟩); clear hK K; (try simp only [Act.put, List.setIfInBounds_toArray, List.set_cons_zero, List.set_cons_succ])
  refine regF_take (v := ?_) 14 (by kernel_rfl) (by rfl) rfl (by kernel_rfl) (by kernel_rfl) (by kernel_rfl) (fun _ _ _ h => h) (Or.inl ⟨by rfl, ?_⟩) (by assumption) ?_; rotate_left; (intro w hSw; (try dsimp only at hSw); go_simp); (try with_reducible rfl); (try simp only [Act.put, List.setIfInBounds_toArray, List.set_cons_zero, List.set_cons_succ])
  refine regF_take (v := ?_) 15 (by kernel_rfl) (by rfl) rfl (by kernel_rfl) (by kernel_rfl) (by kernel_rfl) (fun _ _ _ h => h) (Or.inl ⟨by rfl, ?_⟩) (by assumption) ?_; rotate_left; (intro w hSw; (try dsimp only at hSw); go_simp); (try with_reducible rfl); (try simp only [Act.put, List.setIfInBounds_toArray, List.set_cons_zero, List.set_cons_succ])
  refine regF_takeT (v := ?_) 16 (by decide) rfl (by kernel_rfl) (by kernel_rfl) (by kernel_rfl) (fun _ _ _ h => h) (Or.inl ⟨by rfl, ?_⟩) (by assumption) ?_; rotate_left; (intro w hSw; clear hSw; go_simp); (try with_reducible rfl); (try simp only [Act.put, List.setIfInBounds_toArray, List.set_cons_zero, List.set_cons_succ])
  refine regF_takeT (v := ?_) 17 (by decide) rfl (by kernel_rfl) (by kernel_rfl) (by kernel_rfl) (fun _ _ _ h => h) (Or.inl ⟨by rfl, ?_⟩) (by assumption) ?_; rotate_left; (intro w hSw; clear hSw; go_simp); (try with_reducible rfl); (try simp only [Act.put, List.setIfInBounds_toArray, List.set_cons_zero, List.set_cons_succ])
  refine regF_takeT (v := ?_) 18 (by decide) rfl (by kernel_rfl) (by kernel_rfl) (by kernel_rfl) (fun _ _ _ h => h) (Or.inl ⟨by rfl, ?_⟩) (by assumption) ?_; rotate_left; (intro w hSw; clear hSw; go_simp); (try with_reducible rfl); (try simp only [Act.put, List.setIfInBounds_toArray, List.set_cons_zero, List.set_cons_succ])
  refine regF_take (v := ?_) 19 (by kernel_rfl) (by rfl) rfl (by kernel_rfl) (by kernel_rfl) (by kernel_rfl) (fun _ _ _ h => h) (Or.inl ⟨by rfl, ?_⟩) (by assumption) ?_; rotate_left; (intro w hSw; (try dsimp only at hSw); go_simp); (try with_reducible rfl); (try simp only [Act.put, List.setIfInBounds_toArray, List.set_cons_zero, List.set_cons_succ])
  refine regF_last 20 rfl rfl (by kernel_rfl) (fun K hK => ?_); go_simp; skip; refine hK.out _ _ (fun _ => ?_); clear hK K; (try simp only [Act.put, List.setIfInBounds_toArray, List.set_cons_zero, List.set_cons_succ])
  refine regF_after 21 rfl (by decide) rfl (by kernel_rfl) (fun K hK => ?_); have hCg := tap_set_chg w5 g (k * 4 + 2) (k * 4 + 2 + 1) (.slice D' m' c') (.bool pl); have hX6 := hCg.blk (HX.out.belowS hbd) (by omega); refine step_str rfl 36 _ _ rfl gx PI rfl rfl _ _ hX6 hCI hsC honeI.out ?_; intro w9 hB9 hg9 hy; clear hy; refine hK.out _ _ (fun _ => ?_); clear hK K; (try simp only [Act.put, List.setIfInBounds_toArray, List.set_cons_zero, List.set_cons_succ])
  refine regF_takeA (v := ?_) 22 rfl (by decide) rfl (by kernel_rfl) (by kernel_rfl) (by kernel_rfl) (fun _ _ _ h => h) (Or.inl ⟨by rfl, ?_⟩) ?_; rotate_left; (intro w hSw; clear hSw; go_simp); (try with_reducible rfl); (try simp only [Act.put, List.setIfInBounds_toArray, List.set_cons_zero, List.set_cons_succ])
  refine wpAnyF_done (by kernel_rfl) ?_ _
  go_wp2_with fail
  go_ret
  have hF5' : Fr w5 W.heap.size 101 D' m' (itsL pxs) := hF5
  have hH6 := hown_settap (l := pl) (c' := c') HO.out hrow hkx.out hbd (by have := HB.out.lt; omega) hgl oXX.out hF5'
  have hA6 := hapart_set (k := k) (c' := c') (s := (id, fr, pxs, pl)) HA.out hF5' HB.out.lt
  have hgh6 := (hCg.blk (HB.out.belowS hbd) hne).grown hg9 (fun e => by have := Option.some.inj e; omega)
  refine ⟨rfl, ((Chg.of_below hbd).trans hCg (bad := fun b => lo ≤ b ∨ b = gx) (fun b e => e.elim) (fun b _ e => .inl (by omega))).trans (Chg.of_grown hg9) (fun b e => e) (fun b _ e => .inr (Option.some.inj e).symm), hB9, fun _ => ⟨_, m, d, _, hgh6, hH6.grown hg9 hgx, hA6, ?_⟩⟩
  rw [subs_set]
end Go.Proofs.YtmepbokoopgmiaaDoor
