/-
  Contract of hub.Twin: a hub of the call's own, the same. No condition beyond those each theorem names.
-/
import Derived.Test.YtmepbokoopgmiaaDoorHubA
import Derived.Test.YtmepbokoopgmiaaDoorTapD
import Derived.Test.YtmepbokoopgmiaaDoorRegL
namespace Go.Proofs.YtmepbokoopgmiaaDoor
open Go.RowKit
set_option linter.unusedSimpArgs false
set_option linter.unusedVariables false

theorem rssL_set (rs : List RS) (k : Nat) (r r' : RS) (hk : rs[k]? = some r) (h1 : r'.1.1 = r.1.1) (h2 : r'.1.2.1 = r.1.2.1) : ((rssL rs).set (k * 4 + 2) (.slice r'.2.1 r'.2.2.1 r'.2.2.2)).set (k * 4 + 3) (.bool r'.1.2.2.2) = rssL (rs.set k r') := by
  induction rs generalizing k with
  | nil => simp at hk
  | cons y rs ih =>
    cases k with
    | zero =>
      simp at hk
      subst hk
      simp [rssL, rsL, h1, h2]
    | succ k =>
      have := ih k (by simpa using hk)
      simp only [rssL, List.flatMap_cons, List.set_cons_succ] at this ⊢
      rw [← this]
      rw [show (k + 1) * 4 + 2 = (k * 4 + 2) + 1 + 1 + 1 + 1 by omega, show (k + 1) * 4 + 3 = (k * 4 + 3) + 1 + 1 + 1 + 1 by omega]
      rfl
theorem subs_set (rs : List RS) (k : Nat) (r' : RS) : subs (rs.set k r') = (subs rs).set k r'.1 := by
  simp [subs, List.map_set]
section
variable {w w' : World} {lo n c : Nat} {e : TypeId} {sz : Nat} {A : Option Addr} {xs : List Value}
theorem Own.base (h : Own w lo e sz A n c xs) (hn : 0 < n) : ∃ g, A = some ⟨g, 0, none⟩ ∧ rowOf A c = some g ∧ lo ≤ g ∧ g < w.heap.size := by
  rcases h with ⟨rfl, _, _⟩ | ⟨g, cur, rfl, hlo, hg, hnc, _⟩
  · omega
  · refine ⟨g, rfl, ?_, hlo, lt_block hg⟩
    unfold rowOf
    rw [if_neg (by omega)]
    rfl
theorem Own.lt (h : Own w lo e sz A n c xs) : ∀ g, rowOf A c = some g → g < w.heap.size := fun g hg => (h.row_lt g hg).2
end
theorem tap_set_chg (w : World) (g i j : Nat) (u v : Value) : Chg w ((w.setCell ⟨g, i, none⟩ u).setCell ⟨g, j, none⟩ v) (fun b => b = g) :=
  ((Chg.refl w (fun b => b = g)).setCell (g := g) (i := i) u (.inl rfl)).setCell (g := g) (i := j) v (.inl rfl)

/-- A hub of the call's own. -/
def GivesH (w : World) (h : Hub) (e : Ending) (w' : World) : Prop := ∃ D m c rs, e = .returned (.agg #[.int .i64 h.1, .slice D m c]) ∧ subs rs = h.2 ∧ HOwn w' w.heap.size D m c rs ∧ Below w.heap.size w w'

/-- How Twin's loop stands at its k-th round. -/
def TW (w0 w : World) (lo : Nat) (D : Option Addr) (n d : Nat) (rs : List RS) (k : Nat) : Prop :=
  ∃ rs' : List RS, subs rs' = subs rs ∧ Own w lo 53 4 D n d (rssL rs') ∧ (∀ j r, rs'[j]? = some r → j < k → SubOwn w lo (rowOf D d) r) ∧ (∀ j r, rs'[j]? = some r → k ≤ j → r ∈ rs)
theorem tw_next {w0 w w' : World} {lo g n d k : Nat} {rs rs' : List RS} {r : RS} {D' : Option Addr} {c' : Nat}
    (h1 : subs rs' = subs rs) (h2 : Own w lo 53 4 (some ⟨g, 0, none⟩) n d (rssL rs')) (h3 : ∀ j r, rs'[j]? = some r → j < k → SubOwn w lo (some g) r) (h4 : ∀ j r, rs'[j]? = some r → k ≤ j → r ∈ rs)
    (hd : rowOf (some ⟨g, 0, none⟩) d = some g) (hk : rs'[k]? = some r) (ho : ItsOk r.1.2.2.1) (hb : Below w.heap.size w w') (hlo : lo ≤ w.heap.size) (hg : g < w.heap.size)
    (hO : Own w' w.heap.size 36 101 D' r.1.2.2.1.length c' (itsL r.1.2.2.1)) :
    TW w0 ((w'.setCell ⟨g, k * 4 + 2, none⟩ (.slice D' r.1.2.2.1.length c')).setCell ⟨g, k * 4 + 3, none⟩ (.bool r.1.2.2.2)) lo (some ⟨g, 0, none⟩) n d rs (k + 1) := by
  have hkl : k < rs'.length := (List.getElem?_eq_some_iff.1 hk).1
  have hC := tap_set_chg w' g (k * 4 + 2) (k * 4 + 3) (.slice D' r.1.2.2.1.length c') (.bool r.1.2.2.2)
  refine ⟨rs'.set k (r.1, D', r.1.2.2.1.length, c'), ?_, ?_, ?_, ?_⟩
  · rw [subs_set, h1, ← h1]
    have hs : (subs rs')[k]? = some r.1 := by simp [subs, hk]
    obtain ⟨hlt, e⟩ := List.getElem?_eq_some_iff.1 hs
    rw [← e]
    exact List.set_getElem_self hlt
  · rw [← rssL_set rs' k r (r.1, D', r.1.2.2.1.length, c') hk rfl rfl]
    exact ((h2.below hb).set _ _).set _ _
  · intro j q hj hjk
    rw [hd]
    by_cases e : j = k
    · subst e
      rw [List.getElem?_set_self hkl] at hj
      cases hj
      refine ⟨ho, (hO.fr.low hlo).keepB (by omega) hC fun _ b o e hbad => ?_, fun hm b o e e2 => ?_⟩
      · simp only at e hbad
        subst hbad
        obtain ⟨b', o', e', hl, _⟩ := hO.rd.2 (by simp only at *; omega)
        rw [e] at e'
        cases e'
        omega
      · simp only at e hm
        obtain ⟨b', o', e', hl, _⟩ := hO.rd.2 (by omega)
        rw [e] at e'
        cases e'
        cases e2
        omega
    · rw [List.getElem?_set_ne (by omega)] at hj
      exact ((h3 j q hj (by omega)).below hb).chg hC (fun b _ e => by rw [e])
  · intro j q hj hjk
    rw [List.getElem?_set_ne (by omega)] at hj
    exact h4 j q hj (by omega)
theorem Own.tapAt {w : World} {lo g n d k : Nat} {rs : List RS} {r : RS} (h : Own w lo 53 4 (some ⟨g, 0, none⟩) n d (rssL rs)) (hk : rs[k]? = some r) :
    w.cell? ⟨g, k * 4, none⟩ = some (.int .i64 r.1.1) ∧ w.cell? ⟨g, k * 4 + 1, none⟩ = some (.int .i64 r.1.2.1) ∧ w.cell? ⟨g, k * 4 + 2, none⟩ = some (.slice r.2.1 r.2.2.1 r.2.2.2) ∧ w.cell? ⟨g, k * 4 + 3, none⟩ = some (.bool r.1.2.2.2) ∧
      w.frozen? ⟨g, k * 4, none⟩ = false ∧ w.frozen? ⟨g, k * 4 + 1, none⟩ = false ∧ w.frozen? ⟨g, k * 4 + 2, none⟩ = false ∧ w.frozen? ⟨g, k * 4 + 3, none⟩ = false := by
  have hl := h.len
  rw [rssL_len] at hl
  have hkl : k < rs.length := (List.getElem?_eq_some_iff.1 hk).1
  have key : ∀ j, j < 4 → w.cell? ⟨g, k * 4 + j, none⟩ = (rsL r)[j]? ∧ w.frozen? ⟨g, k * 4 + j, none⟩ = false := fun j hj => by
    obtain ⟨u, hu, hc, hf, _⟩ := h.at_ (k := k * 4 + j) (by omega)
    rw [rssL_at rs k r hk j hj] at hu
    exact ⟨by rw [hc, hu], hf⟩
  exact ⟨(key 0 (by omega)).1, (key 1 (by omega)).1, (key 2 (by omega)).1, (key 3 (by omega)).1, (key 0 (by omega)).2, (key 1 (by omega)).2, (key 2 (by omega)).2, (key 3 (by omega)).2⟩

set_option maxRecDepth 100000 in
set_option maxHeartbeats 4000000 in
theorem htwin_any (nx : Int) (A : Option Addr) (n c : Nat) (rs : List RS) (w : World) (hr : HRd w A n rs) (hn : n ≤ 1000) (hs : ∀ s ∈ subs rs, s.2.2.1.length ≤ 1000) :
    Calls Tryd.prog 25 #[.agg #[.int .i64 nx, .slice A n c]] w (GivesH w (nx, subs rs)) := by
  have hC := hid (fun W (h : HRd W A n rs) => cloneS_any A n c rs W h.1 hn)
  have hl := hid hr.len
  have HR := hid hr
  have HSS := hid hs
  clear hr hs
  go_enter Tryd.func25, Tryd.ntmps25
  go_wp2_with (first
    | (refine wpList_bx rfl 24 _ rfl #[.int .i64 nx, .slice A n c] rfl ?_; intro w1 hB1 hb1 hy; have hz1 := hid hy; clear hy)
    | ((with_reducible refine at_alloc 24 ?_); refine wpList_al rfl 24 rfl _ (hub_zero _) ?_; intro w2 hB2 hb2 hy; have hz2 := hid hy; clear hy; have X0 := hid (below_chain hb1 hb2); have X1 := hid (hB1.belowS hb2); have X2 := hid hB2; obtain ⟨a0, a1, a2, a3⟩ := two_facts X1.out)
    | ((with_reducible refine (hC.out _ (HR.out.below X0.out)).mono ?_); rintro e w3 ⟨D, d, rfl, hO, hb3⟩; clear a0 a1 a2 a3; have hB3 := X1.out.belowS hb3; obtain ⟨a0, a1, a2, a3⟩ := two_facts hB3))
  have hgd : ∀ g, rowOf D d = some g → w2.heap.size ≤ g := fun g hg => (hO.row_lt g hg).1
  have hs12 : w2.heap.size = w.heap.size + 2 := by have := hz1.out; have := hz2.out; omega
  have hs1 : w1.heap.size = w.heap.size + 1 := hz1.out
  have B1 : Blk (w3.setCell ⟨w.heap.size, 1, none⟩ (.slice D n d)) w.heap.size 24 #[.int .i64 nx, .slice D n d] := hB3.set_ 1 _
  have B2 := (X2.out.belowS hb3).far (b := w.heap.size) (i := 1) (by omega) (.slice D n d)
  have O1 := (hO.setRow (b := w.heap.size) (i := 1) (fun e => by have := hgd _ e; omega) (.slice D n d)).low (lo' := w.heap.size + 2) (by omega)
  have b3 := below_chain X0.out hb3
  have b1 := below_set b3 (grown_set (World.grownBy.refl w3 (some w.heap.size)) (k := 1) (.inl rfl) (.slice D n d)) (Nat.le_refl _)
  have hT : TW w _ (w.heap.size + 2) D n d rs 0 := ⟨rs, rfl, O1, fun j r _ h => absurd h (by omega), fun j r h _ => List.mem_of_getElem? h⟩
  rw [hs1] at B2
  clear a0 a1 a2 a3 hB3 hO hb3 hz1 hz2 hB1 hb1 hB2 hb2 X0 X1 X2 hC O1 b3
  generalize w3.setCell ⟨w.heap.size, 1, none⟩ (.slice D n d) = w4 at *
  obtain ⟨a0, a1, a2, a3⟩ := two_facts B1
  go_wp2_with fail
  go_loopw [11] (fun i wx => ∃ k : Nat, k ≤ n ∧ i = .int .i64 k ∧ Blk wx w.heap.size 24 #[.int .i64 nx, .slice D n d] ∧ Blk wx (w.heap.size + 1) 24 #[.int .i64 0, .slice none 0 0] ∧ Below w.heap.size w wx ∧ TW w wx (w.heap.size + 2) D n d rs k) (fun i _ => n - (intOf i).toNat)
  case atStart => exact ⟨0, Nat.zero_le _, rfl, B1, B2, b1, hT⟩
  case round =>
    clear B1 B2 b1 hT a0 a1 a2 a3
    obtain ⟨k, hk, rfl, B1, B2, hb, hT⟩ := hrel
    obtain ⟨a0, a1, a2, a3⟩ := two_facts B1
    obtain ⟨c0, c1, c2, c3⟩ := two_facts B2
    by_cases hlt : k < n
    · clear c0 c1 c2 c3
      obtain ⟨rs', h1, h2, h3, h4⟩ := hT
      have hl' : rs'.length = n := by have := h2.len; rw [rssL_len] at this; omega
      obtain ⟨g, rfl, hd, hlo, hgl⟩ := h2.base (by omega)
      have hx : rs'[k]? = some (rs'[k]'(by omega)) := List.getElem?_eq_getElem _
      generalize rs'[k]'(by omega) = r at hx
      have hmem := h4 k r hx (Nat.le_refl _)
      obtain ⟨ho, hri⟩ := (HR.out.2 r hmem).below hb
      have hlen := HSS.out r.1 (List.mem_map_of_mem hmem)
      have hrl := rd_len ho hri
      obtain ⟨_, _, t2, t3, _, _, f2, f3⟩ := h2.tapAt hx
      have hgn : g ≠ w.heap.size ∧ g ≠ w.heap.size + 1 := by have := hgd g hd; omega
      rw [hd] at h3
      have hlo2 : w.heap.size + 2 ≤ wr.heap.size := by have := B2.lt; omega
      have HT := hid (fun W' D' c' h5 h6 => tw_next (w0 := w) (w' := W') (D' := D') (c' := c') h1 h2 h3 h4 hd hx ho h5 hlo2 hgl h6)
      have hlo3 := hid hlo2
      have H1 := hid B1
      have H2 := hid B2
      have HB := hid hb
      have HL2 := hid h2
      have HX := hid hx
      have hTw := hid (fun W (h : Rd W 0 101 r.2.1 r.2.2.1 (itsL r.1.2.2.1)) => twin_any r.2.1 r.2.2.1 r.2.2.2 r.1.2.2.2 r.1.2.2.1 ho W h (by omega))
      have HI := hid hri
      clear h1 h2 h3 h4 hx hmem ho hri hlen hrl B1 B2 hb hl'
      obtain ⟨⟨id, fr, its, lost⟩, E, m, ec⟩ := r
      simp only at HT hTw HI t2 t3
      have hti : (k : Int) < (n : Int) := by omega
      have htz : (0 : Int) ≤ (k : Int) := by omega
      go_wp2_with fail
      refine wp_region_F_drew 12 (S := (fun w' => w'.cell? ⟨w.heap.size, 1, none⟩ = some (.slice (some ⟨g, 0, none⟩) n d) ∧ w'.cell? ⟨g, k * 4 + 2, none⟩ = some (.slice E m ec) ∧ w'.cell? ⟨g, k * 4 + 3, none⟩ = some (.bool lost))) (by kernel_rfl) ⟨a1, t2, t3⟩ (fun hHeld => ?_)
      refine regF_take (v := ?_) 0 (by kernel_rfl) (by rfl) rfl (by kernel_rfl) (by kernel_rfl) (by kernel_rfl) (fun _ _ _ h => h) (Or.inl ⟨by rfl, ?_⟩) (by assumption) ?_; rotate_left; (intro w hSw; (try dsimp only at hSw); go_simp); (try with_reducible rfl); (try simp only [Act.put, List.setIfInBounds_toArray, List.set_cons_zero, List.set_cons_succ])
      refine regF_take (v := ?_) 1 (by kernel_rfl) (by rfl) rfl (by kernel_rfl) (by kernel_rfl) (by kernel_rfl) (fun _ _ _ h => h) (Or.inl ⟨by rfl, ?_⟩) (by assumption) ?_; rotate_left; (intro w hSw; (try dsimp only at hSw); go_simp); (try with_reducible rfl); (try simp only [Act.put, List.setIfInBounds_toArray, List.set_cons_zero, List.set_cons_succ])
      refine regF_take (v := ?_) 2 (by kernel_rfl) (by rfl) rfl (by kernel_rfl) (by kernel_rfl) (by kernel_rfl) (fun _ _ _ h => h) (Or.inl ⟨by rfl, ?_⟩) (by assumption) ?_; rotate_left; (intro w hSw; (try dsimp only at hSw); go_simp); (try with_reducible rfl); (try simp only [Act.put, List.setIfInBounds_toArray, List.set_cons_zero, List.set_cons_succ])
      refine regF_take (v := ?_) 3 (by kernel_rfl) (by rfl) rfl (by kernel_rfl) (by kernel_rfl) (by kernel_rfl) (fun _ _ _ h => h) (Or.inl ⟨by rfl, ?_⟩) (by assumption) ?_; rotate_left; (intro w hSw; (try dsimp only at hSw); go_simp); (try with_reducible rfl); (try simp only [Act.put, List.setIfInBounds_toArray, List.set_cons_zero, List.set_cons_succ])
      refine regF_take (v := ?_) 4 (by kernel_rfl) (by rfl) rfl (by kernel_rfl) (by kernel_rfl) (by kernel_rfl) (fun _ _ _ h => h) (Or.inl ⟨by rfl, ?_⟩) (by assumption) ?_; rotate_left; (intro w hSw; (try dsimp only at hSw); go_simp); (try with_reducible rfl); (try simp only [Act.put, List.setIfInBounds_toArray, List.set_cons_zero, List.set_cons_succ])
      refine regF_take (v := ?_) 5 (by kernel_rfl) (by rfl) rfl (by kernel_rfl) (by kernel_rfl) (by kernel_rfl) (fun _ _ _ h => h) (Or.inl ⟨by rfl, ?_⟩) (by assumption) ?_; rotate_left; (intro w hSw; (try dsimp only at hSw); go_simp); (try with_reducible rfl); (try simp only [Act.put, List.setIfInBounds_toArray, List.set_cons_zero, List.set_cons_succ])
      refine regF_take (v := ?_) 6 (by kernel_rfl) (by rfl) rfl (by kernel_rfl) (by kernel_rfl) (by kernel_rfl) (fun _ _ _ h => h) (Or.inl ⟨by rfl, ?_⟩) (by assumption) ?_; rotate_left; (intro w hSw; (try dsimp only at hSw); go_simp); (try with_reducible rfl); (try simp only [Act.put, List.setIfInBounds_toArray, List.set_cons_zero, List.set_cons_succ])
      refine regF_take (v := ?_) 7 (by kernel_rfl) (by rfl) rfl (by kernel_rfl) (by kernel_rfl) (by kernel_rfl) (fun _ _ _ h => h) (Or.inl ⟨by rfl, ?_⟩) (by assumption) ?_; rotate_left; (intro w hSw; (try dsimp only at hSw); go_simp); (try with_reducible rfl); (try simp only [Act.put, List.setIfInBounds_toArray, List.set_cons_zero, List.set_cons_succ])
      refine regF_take (v := ?_) 8 (by kernel_rfl) (by rfl) rfl (by kernel_rfl) (by kernel_rfl) (by kernel_rfl) (fun _ _ _ h => h) (Or.inl ⟨by rfl, ?_⟩) (by assumption) ?_; rotate_left; (intro w hSw; (try dsimp only at hSw); go_simp); (try with_reducible rfl); (try simp only [Act.put, List.setIfInBounds_toArray, List.set_cons_zero, List.set_cons_succ])
      refine regF_only 9 rfl (by kernel_rfl) (fun K hK => ?_); go_simp; refine (hTw.out _ (HI.out.below (below_self_drew _))).mono ?_; rintro e w5 ⟨E', ec', rfl, hOt, hb5⟩; have hbd := below_chain (below_self_drew wr) hb5; obtain ⟨p0, p1, p2, p3⟩ := two_facts (H1.out.belowS hbd); obtain ⟨_, _, q2, q3, _, _, f2, f3⟩ := (HL2.out.below hbd).tapAt HX.out; refine hK.out _ _ ?_ (fun hHeld => ?_); (exact ⟨p1, q2, q3⟩); clear hK K; (try simp only [Act.put, List.setIfInBounds_toArray, List.set_cons_zero, List.set_cons_succ])
      refine regF_takeT (v := ?_) 10 (by decide) rfl (by kernel_rfl) (by kernel_rfl) (by kernel_rfl) (fun _ _ _ h => h) (Or.inl ⟨by rfl, ?_⟩) (by assumption) ?_; rotate_left; (intro w hSw; clear hSw; go_simp); (try with_reducible rfl); (try simp only [Act.put, List.setIfInBounds_toArray, List.set_cons_zero, List.set_cons_succ])
      refine regF_take (v := ?_) 11 (by kernel_rfl) (by rfl) rfl (by kernel_rfl) (by kernel_rfl) (by kernel_rfl) (fun _ _ _ h => h) (Or.inl ⟨by rfl, ?_⟩) (by assumption) ?_; rotate_left; (intro w hSw; (try dsimp only at hSw); go_simp); (try with_reducible rfl); (try simp only [Act.put, List.setIfInBounds_toArray, List.set_cons_zero, List.set_cons_succ])
      refine regF_last 12 rfl rfl (by kernel_rfl) (fun K hK => ?_); go_simp; skip; refine hK.out _ _ (fun _ => ?_); clear hK K; (try simp only [Act.put, List.setIfInBounds_toArray, List.set_cons_zero, List.set_cons_succ])
      refine wpAnyF_done (by kernel_rfl) ?_ _
      have hT' : TW w ((w5.setCell ⟨g, k * 4 + 2, none⟩ (.slice E' its.length ec')).setCell ⟨g, k * 4 + 2 + 1, none⟩ (.bool lost)) (w.heap.size + 2) (some ⟨g, 0, none⟩) n d rs (k + 1) := HT.out w5 E' ec' hbd hOt
      have B1' := ((H1.out.belowS hbd).far (b := g) (i := k * 4 + 2) (fun e => hgn.1 e.symm) (.slice E' its.length ec')).far (b := g) (i := k * 4 + 2 + 1) (fun e => hgn.1 e.symm) (.bool lost)
      have B2' := ((H2.out.belowS hbd).far (b := g) (i := k * 4 + 2) (fun e => hgn.2 e.symm) (.slice E' its.length ec')).far (b := g) (i := k * 4 + 2 + 1) (fun e => hgn.2 e.symm) (.bool lost)
      have hb' := (below_chain HB.out hbd).trans ((tap_set_chg w5 g (k * 4 + 2) (k * 4 + 2 + 1) (.slice E' its.length ec') (.bool lost)).below (B := w.heap.size) (by have := hbd.size; have := HB.out.size; omega) (fun b e => by omega))
      generalize (w5.setCell ⟨g, k * 4 + 2, none⟩ (.slice E' its.length ec')).setCell ⟨g, k * 4 + 2 + 1, none⟩ (.bool lost) = w6 at *
      clear p0 p1 p2 p3 q2 q3 f2 f3 hHeld hb5 hbd hTw hOt HT a0 a1 a2 a3 t2 t3 HI HX HL2
      have B1 := hid B1'
      have B2 := hid B2'
      have hb := hid hb'
      have hT := hid hT'
      clear B1' B2' hb' hT'
      go_wp2_with fail
      refine ⟨⟨k + 1, by omega, by go_num, B1.out, B2.out, hb.out, hT.out⟩, by simp [intOf]; omega⟩
    · obtain rfl : k = n := by omega
      have hti : ¬ (k : Int) < (k : Int) := by omega
      go_wp2_with fail
      obtain ⟨rs', h1, h2, h3, h4⟩ := hT
      have B2' : Blk ((wr.setCell ⟨w.heap.size + 1, 0, none⟩ (.int .i64 nx)).setCell ⟨w.heap.size + 1, 1, none⟩ (.slice D k d)) (w.heap.size + 1) 24 #[.int .i64 nx, .slice D k d] := B2.both
      have hC := chg_both wr (w.heap.size + 1) (.int .i64 nx) (.slice D k d)
      have hl' : rs'.length = k := by have := h2.len; rw [rssL_len] at this; omega
      have hH : HOwn ((wr.setCell ⟨w.heap.size + 1, 0, none⟩ (.int .i64 nx)).setCell ⟨w.heap.size + 1, 1, none⟩ (.slice D k d)) (w.heap.size + 2) D k d rs' :=
        ⟨h2.chg hC (fun b hb e => by omega), fun r hr => by
          obtain ⟨j, hj, e⟩ := List.getElem_of_mem hr
          exact (h3 j r (by rw [← e]; exact List.getElem?_eq_getElem hj) (by omega)).chg hC (fun b hb e => by omega)⟩
      have hbf := hb.trans (hC.below hb.size (fun b e => by omega))
      generalize (wr.setCell ⟨w.heap.size + 1, 0, none⟩ (.int .i64 nx)).setCell ⟨w.heap.size + 1, 1, none⟩ (.slice D k d) = wf at *
      obtain ⟨g0, g1, _, _⟩ := two_facts B2'
      exact bodyPost_ret (v := .agg #[.int .i64 nx, .slice D k d]) (by simp [results, Tryd.f25, go_sem, g0, g1]) rfl ⟨D, k, d, rs', rfl, h1, hH.low (by omega), hbf⟩
end Go.Proofs.YtmepbokoopgmiaaDoor
