/-
  Contract of the law's spoil: what it writes over is the hub's own. No condition beyond those each theorem names.
-/
import Derived.Test.YtmepbokoopgmiaaDoorHubZj
namespace Go.Proofs.YtmepbokoopgmiaaDoor
open Go.RowKit
set_option linter.unusedSimpArgs false
set_option linter.unusedVariables false

/-- A hub that may be written over: its row and its items lie in blocks from lo on. -/
structure Sp (w : World) (lo hi : Nat) (D : Option Addr) (rs : List RS) : Prop where
  row : 0 < rs.length → ∃ g t cs, D = some ⟨g, 0, none⟩ ∧ (lo ≤ g ∧ g < hi) ∧ Blk w g t cs ∧ (∀ j r, rs[j]? = some r → ∃ u, cs[j * 4]? = some u ∧ cs[j * 4 + 2]? = some (.slice r.2.1 r.2.2.1 r.2.2.2)) ∧ ∀ r ∈ rs, 0 < r.2.2.1 → ∀ b o, r.2.1 = some ⟨b, o, none⟩ → b ≠ g
  its : ∀ r ∈ rs, 0 < r.2.2.1 → ∃ b o t cs, r.2.1 = some ⟨b, o, none⟩ ∧ (lo ≤ b ∧ b < hi) ∧ Blk w b t cs ∧ o + r.2.2.1 * 101 ≤ cs.size
section
variable {w w' : World} {lo hi m c : Nat} {D : Option Addr} {rs : List RS}
theorem Sp.len (h : HOwn w lo D m c rs) : rs.length = m := h.len
theorem HOwn.sp (h : HOwn w lo D m c rs) : Sp w lo w.heap.size D rs := by
  have hl := h.len
  refine ⟨fun hp => ?_, fun r hr hp => ?_⟩
  · obtain ⟨g, rfl, hrow, hlo, hg⟩ := h.1.base (by omega)
    have hap : ∀ r ∈ rs, 0 < r.2.2.1 → ∀ b o, r.2.1 = some ⟨b, o, none⟩ → b ≠ g := fun r hr hp b o e e2 => (h.2 r hr).2.2 hp b o e (by rw [hrow, e2])
    have hta := fun (j : Nat) (r : RS) (hj : rs[j]? = some r) => h.1.tapAt hj
    rcases h.1 with ⟨h0, _⟩ | ⟨g', cur, e, hlo', hB, hmc, _, hs, _⟩
    · omega
    · cases e
      refine ⟨g, _, cur, rfl, ⟨hlo, hg⟩, hB, fun j r hj => ?_, hap⟩
      obtain ⟨t0, _, t2, _⟩ := hta j r hj
      have hB' : Blk w g 53 cur := hB
      rw [hB'.cell] at t0 t2
      exact ⟨_, t0, t2⟩
  · obtain ⟨ho, hF, _⟩ := h.2 r hr
    obtain ⟨b, o, e, hlo, hlt, hc⟩ := hF.1.lt (by omega)
    obtain ⟨t, cs, hB⟩ := hF.2 hp b o e
    refine ⟨b, o, t, cs, e, ⟨hlo, hlt⟩, hB, ?_⟩
    have h1 := hc (r.2.2.1 * 101 - 1) (by omega)
    rw [hB.cell] at h1
    have hil := hF.1.1
    rw [List.getElem?_eq_getElem (by omega)] at h1
    have := (Array.getElem?_eq_some_iff.1 h1).1
    omega
theorem Sp.below (h : Sp w lo hi D rs) (hb : Below w.heap.size w w') : Sp w' lo hi D rs :=
  ⟨fun hp => by
    obtain ⟨g, t, cs, e, hlo, hB, r⟩ := h.row hp
    exact ⟨g, t, cs, e, hlo, hB.belowS hb, r⟩, fun r hr hp => by
    obtain ⟨b, o, t, cs, e, hlo, hB, hs⟩ := h.its r hr hp
    exact ⟨b, o, t, cs, e, hlo, hB.belowS hb, hs⟩⟩
theorem blk_any {g b i : Nat} {t : TypeId} {cs : Array Value} (h : Blk w g t cs) (v : Value) : ∃ cs', Blk (w.setCell ⟨b, i, none⟩ v) g t cs' ∧ cs'.size = cs.size := by
  by_cases e : g = b
  · subst e
    exact ⟨_, h.set_ i v, by simp⟩
  · exact ⟨cs, h.far e v, rfl⟩
theorem Sp.set {b i : Nat} (h : Sp w lo hi D rs) (v : Value) (hbi : ∀ g, D = some ⟨g, 0, none⟩ → 0 < rs.length → b = g → ∃ j, i = j * 4) : Sp (w.setCell ⟨b, i, none⟩ v) lo hi D rs := by
  refine ⟨fun hp => ?_, fun r hr hp => ?_⟩
  · obtain ⟨g, t, cs, e, hlo, hB, hj, hap⟩ := h.row hp
    by_cases eb : g = b
    · subst eb
      obtain ⟨q, rfl⟩ := hbi g e hp rfl
      refine ⟨g, t, _, e, hlo, hB.set_ (q * 4) v, fun j r hr => ?_, hap⟩
      obtain ⟨u, h0, h2⟩ := hj j r hr
      have hlt := (Array.getElem?_eq_some_iff.1 h0).1
      rw [Array.getElem?_setIfInBounds, Array.getElem?_setIfInBounds]
      refine ⟨if q * 4 = j * 4 then v else u, ?_, by rw [if_neg (by omega)]; exact h2⟩
      by_cases e : q * 4 = j * 4
      · rw [if_pos e, if_pos e, if_pos (by omega)]
      · rw [if_neg e, if_neg e]
        exact h0
    · exact ⟨g, t, cs, e, hlo, hB.far eb v, hj, hap⟩
  · obtain ⟨b', o, t, cs, e, hlo, hB, hs⟩ := h.its r hr hp
    obtain ⟨cs', hB', hs'⟩ := blk_any hB v
    exact ⟨b', o, t, cs', e, hlo, hB', by omega⟩
theorem Sp.chg {bad : Nat → Prop} (h : Sp w lo hi D rs) (hc : Chg w w' bad) (hb : ∀ b, lo ≤ b → ¬ bad b) : Sp w' lo hi D rs :=
  ⟨fun hp => by
    obtain ⟨g, t, cs, e, hlo, hB, r⟩ := h.row hp
    exact ⟨g, t, cs, e, hlo, hc.blk hB (hb g hlo.1), r⟩, fun r hr hp => by
    obtain ⟨b, o, t, cs, e, hlo, hB, hs⟩ := h.its r hr hp
    exact ⟨b, o, t, cs, e, hlo, hc.blk hB (hb b hlo.1), hs⟩⟩
end

set_option maxRecDepth 100000 in
set_option maxHeartbeats 4000000 in
theorem spoil24_any (nx : Int) (D : Option Addr) (m c lo hi : Nat) (rs : List RS) (w : World) (hS : Sp w lo hi D rs) (hhi : hi ≤ w.heap.size) (hl' : rs.length = m) (hm : m ≤ 1000) (hlen : ∀ r ∈ rs, r.2.2.1 ≤ 1000) :
    Calls Tryd.prog 26 #[.agg #[.int .i64 nx, .slice D m c]] w fun e w' => (∃ v, e = .returned v) ∧ Chg w w' (fun b => lo ≤ b ∧ b < hi) := by
  have hl := hid hl'
  have HSP := hid hS
  have HLN := hid hlen
  clear hS hl' hlen
  go_enter Tryd.func26, Tryd.ntmps26
  go_wp2_with (refine wpList_bx rfl 24 _ rfl #[.int .i64 nx, .slice D m c] rfl ?_; intro w1 hB1 hb1 hy; clear hy)
  have HS1 := hid (HSP.out.below hb1)
  have HC1 := hid ((Chg.refl w (fun b => lo ≤ b ∧ b < hi)).thenBelow hb1)
  have HB1 := hid hB1
  have hw1 := hid hB1.lt
  clear hB1 hb1
  generalize hg1 : w.heap.size = g1 at *
  go_loopw [2] (fun i wx => ∃ k : Nat, k ≤ m ∧ i = .int .i64 k ∧ Chg w wx (fun b => lo ≤ b ∧ b < hi) ∧ Blk wx g1 24 #[.int .i64 nx, .slice D m c] ∧ Sp wx lo hi D rs) (fun i _ => m - (intOf i).toNat)
  case atStart => exact ⟨0, Nat.zero_le _, rfl, HC1.out, HB1.out, HS1.out⟩
  case round =>
    obtain ⟨k, hk, rfl, hC, hB, hS⟩ := hrel
    have HC := hid hC
    have HB := hid hB
    have HS := hid hS
    obtain ⟨a0, a1, a2, a3⟩ := two_facts hB
    clear hC hB hS
    have htz : (0 : Int) ≤ (k : Int) := by omega
    by_cases hlt : k < m
    · have hltH := hid hlt
      have hti : (k : Int) < (m : Int) := by omega
      obtain ⟨g, t, cs, hD, ⟨hlg, hgh⟩, hBg, hj, hap⟩ := HS.out.row (by have := hl.out; omega)
      have hx : rs[k]? = some (rs[k]'(by have := hl.out; omega)) := List.getElem?_eq_getElem _
      generalize rs[k]'(by have := hl.out; omega) = r at hx
      obtain ⟨u, hu0, hu2⟩ := hj k r hx
      have HX := hid hx
      have HAP := hid hap
      have hgw : g < g1 := by omega
      have c0 : wr.cell? ⟨g, k * 4, none⟩ = some u := (hBg.cell _).trans hu0
      have f0 := hBg.frozen (k * 4)
      have HD := hid hD
      subst hD
      clear hx hap hj hu0 hu2 hBg
      go_wp2_with fail
      have n1 : g1 ≠ g := by omega
      have HC := hid (HC.out.setCell (g := g) (i := k * 4) (.int .i64 (-7)) (.inl ⟨hlg, hgh⟩))
      have HB := hid (HB.out.far (b := g) (i := k * 4) n1 (.int .i64 (-7)))
      have HS := hid (HS.out.set (b := g) (i := k * 4) (.int .i64 (-7)) (fun _ _ _ _ => ⟨k, rfl⟩))
      clear a0 a1 a2 a3 c0 f0
      generalize wr.setCell ⟨g, k * 4, none⟩ (.int .i64 (-7)) = w2 at *
      have hmf := HLN.out r (List.mem_of_getElem? HX.out)
      obtain ⟨s, F, mf, cf⟩ := r
      try dsimp only at *
      go_loopw [3] (fun i wx => ∃ j : Nat, j ≤ mf ∧ i = .int .i64 j ∧ Chg w wx (fun b => lo ≤ b ∧ b < hi) ∧ Blk wx g1 24 #[.int .i64 nx, .slice (some ⟨g, 0, none⟩) m c] ∧ Sp wx lo hi (some ⟨g, 0, none⟩) rs) (fun i _ => mf - (intOf i).toNat)
      case atStart => exact ⟨0, Nat.zero_le _, rfl, HC.out, HB.out, HS.out⟩
      case round =>
        clear HC HB HS
        obtain ⟨j, hj, rfl, hC, hB, hS⟩ := hrel
        have HC := hid hC
        have HB := hid hB
        have HS := hid hS
        obtain ⟨a0, a1, a2, a3⟩ := two_facts hB
        clear hC hB hS
        have hjz : (0 : Int) ≤ (j : Int) := by omega
        obtain ⟨g2, t2, cs2, hD2, _, hBg2, hj2, _⟩ := HS.out.row (by have := hl.out; omega)
        cases hD2
        obtain ⟨u2, _, hu2⟩ := hj2 k _ HX.out
        have c2 : wr.cell? ⟨g, k * 4 + 2, none⟩ = some (.slice F mf cf) := (hBg2.cell _).trans hu2
        clear hj2 hu2 hBg2
        by_cases hjt : j < mf
        · have hjtH := hid hjt
          have hji : (j : Int) < (mf : Int) := by omega
          obtain ⟨b, o, tb, cb, hF, ⟨hlb, hhb⟩, hBb, hsz⟩ := HS.out.its _ (List.mem_of_getElem? HX.out) (by show 0 < mf; omega)
          have hF' : F = some ⟨b, o, none⟩ := hF
          have hbg : b ≠ g := HAP.out _ (List.mem_of_getElem? HX.out) (by show 0 < mf; omega) b o hF
          subst hF'
          have hsz' : o + mf * 101 ≤ cb.size := hsz
          obtain ⟨ad, had⟩ : ∃ ad, o + j * 101 = ad := ⟨_, rfl⟩
          have hadl : ad < cb.size := by omega
          have ci : wr.cell? ⟨b, ad, none⟩ = some (cb[ad]'hadl) := (hBb.cell _).trans (Array.getElem?_eq_getElem hadl)
          have fi := hBb.frozen ad
          have hbl := hid (show lo ≤ b ∧ b < hi from ⟨hlb, hhb⟩)
          have n2 : g1 ≠ b := by omega
          clear hBb hF hsz hsz' hlb hhb
          generalize cb[ad]'hadl = ui at *
          go_wp2_with fail
          refine ⟨⟨j + 1, by have := hjtH.out; omega, by go_num, HC.out.setCell (g := b) _ (.inl hbl.out), HB.out.far n2 _, HS.out.set (b := b) _ (fun g' e _ e2 => absurd (e2.trans (by cases e; rfl)) hbg)⟩, by have := hjtH.out; simp [intOf]; omega⟩
        · obtain rfl : j = mf := by omega
          have hji : ¬ (j : Int) < (j : Int) := by omega
          go_wp2_with fail
          exact ⟨⟨k + 1, by have := hltH.out; omega, by go_num, HC.out, HB.out, HS.out⟩, by have := hltH.out; simp [intOf]; omega⟩
    · obtain rfl : k = m := by omega
      have hti : ¬ (k : Int) < (k : Int) := by omega
      go_wp2
      go_end0
      exact ⟨⟨_, rfl⟩, HC.out⟩
end Go.Proofs.YtmepbokoopgmiaaDoor
