/-
  Contract of the reference's Twin of a hub. No condition beyond those each theorem names.
-/
import Derived.Test.YtmepbokoopgmiaaDoorHubZb
namespace Go.Proofs.YtmepbokoopgmiaaDoor
open Go.RowKit
set_option linter.unusedSimpArgs false
set_option linter.unusedVariables false

theorem four_facts {w : World} {g : Nat} {t : TypeId} {a b c d : Value} (h : Blk w g t #[a, b, c, d]) : w.cell? ⟨g, 0, none⟩ = some a ∧ w.cell? ⟨g, 1, none⟩ = some b ∧ w.cell? ⟨g, 2, none⟩ = some c ∧ w.cell? ⟨g, 3, none⟩ = some d ∧ w.frozen? ⟨g, 0, none⟩ = false ∧ w.frozen? ⟨g, 1, none⟩ = false ∧ w.frozen? ⟨g, 2, none⟩ = false ∧ w.frozen? ⟨g, 3, none⟩ = false :=
  ⟨h.cellv rfl, h.cellv rfl, h.cellv rfl, h.cellv rfl, h.frozen 0, h.frozen 1, h.frozen 2, h.frozen 3⟩
theorem four_set {w : World} {g : Nat} {t : TypeId} {a b c d : Value} (h : Blk w g t #[a, b, c, d]) (u v : Value) : Blk ((w.setCell ⟨g, 2, none⟩ u).setCell ⟨g, 3, none⟩ v) g t #[a, b, u, v] := (h.set_ 2 u).set_ 3 v
theorem hub_built1 (n : Int) (w : World) : (Instr.build 24 #[(0, .int .i64 n)]).run Tryd.prog w = .ok (.agg #[.int .i64 n, .slice none 0 0]) w := run_build w _ _ _ (by kernel_rfl)
theorem take_next {α : Type} {l : List α} {k : Nat} {x : α} (h : l[k]? = some x) : l.take (k + 1) = l.take k ++ [x] := by
  rw [List.take_add_one, h]
  rfl

set_option maxRecDepth 100000 in
set_option maxHeartbeats 8000000 in
theorem twin24_any (h : Hub) (A : Option Addr) (n c : Nat) (w : World) (hh : HubIn w h A n) (hn : n ≤ 1000) (hs : ∀ s ∈ h.2, s.2.2.1.length ≤ 1000) :
    Calls Tryd.prog 17 #[.agg #[.int .i64 h.1, .slice A n c]] w (GivesH w h) := by
  obtain ⟨rs, hR, hS⟩ := hh
  obtain ⟨nx, ss⟩ := h
  simp only at hS hs ⊢
  subst hS
  obtain ⟨i0, hi0, hz0, hz1, hz2⟩ := info_parts sub_info
  have hl := hid hR.len
  have HR := hid hR
  have HS := hid hs
  have hTB := hid (hub_built1 nx)
  clear hR hs
  go_enter Tryd.func17, Tryd.ntmps17
  go_upto_region 2 with (first
    | (refine wpList_bx rfl 24 _ rfl #[.int .i64 nx, .slice A n c] rfl ?_; intro w1 hB1 hb1 hy; have hy1 := hid hy; clear hy; obtain ⟨a0, a1, a2, a3⟩ := two_facts hB1)
    | ((with_reducible refine at_alloc (d := some 2) 24 ?_); refine wpList_al rfl 24 rfl _ (hub_zero _) ?_; intro w2 hB2 hb2 hy; have hz2' := hid hy; clear hy; clear a0 a1 a2 a3; obtain ⟨a0, a1, a2, a3⟩ := two_facts (hB1.belowS hb2))
    | ((with_reducible refine at_build 24 ?_); refine wpList_b1 rfl 24 0 _ rfl (.int .i64 nx) rfl _ (hTB.out _) ?_)
    | ((with_reducible refine at_alloc (d := some 3) 24 ?_); refine wpList_al rfl 24 rfl _ (hub_zero _) ?_; intro w3 hB3 hb3 hy; have hz3 := hid hy; clear hy)
    | ((with_reducible refine at_store 24 ?_); refine wpList_str rfl 24 _ _ rfl w2.heap.size _ rfl rfl _ _ hB3 rfl (hub_size _ _) (one_hub _ _ _ _) ?_; intro w4 hB4 hg4 hy; clear hy))
  have hq4 : Below w2.heap.size w2 w4 := hb3.grown hg4 hb3.size (by intro k e; cases e; exact Nat.le_refl _)
  have X0 := hid (below_chain (below_chain hb1 hb2) hq4)
  have X1 := hid ((hB1.belowS hb2).belowS hq4)
  have X2 := hid (hB2.belowS hq4)
  have X3 := hid hB4
  have l1 := hid (show w.heap.size < w1.heap.size by have := hy1.out; omega)
  have l2 := hid (show w1.heap.size < w2.heap.size by have := hz2'.out; omega)
  have l3 := hid hB4.lt
  have l0 := hid X0.out.size
  clear hB1 hb1 hB2 hb2 hB3 hb3 hB4 hg4 hq4 a0 a1 a2 a3 hy1 hz2' hz3
  generalize w1.heap.size = g2 at *
  generalize w2.heap.size = g3 at *
  go_wp2_with fail
  go_loopw [4] (fun i wx => ∃ (k : Nat) (D : Option Addr) (d : Nat) (rs' : List RS), k ≤ n ∧ i = .int .i64 k ∧ subs rs' = (subs rs).take k ∧ HOwn wx w4.heap.size D k d rs' ∧ Blk wx w.heap.size 24 #[.int .i64 nx, .slice A n c] ∧ Blk wx g2 24 #[.int .i64 0, .slice none 0 0] ∧ Blk wx g3 24 #[.int .i64 nx, .slice D k d] ∧ Below w.heap.size w wx ∧ w4.heap.size ≤ wx.heap.size) (fun i _ => n - (intOf i).toNat)
  case atStart => exact ⟨0, none, 0, [], Nat.zero_le _, rfl, rfl, HOwn.nil _ _ _, X1.out, X2.out, X3.out, X0.out, Nat.le_refl _⟩
  case round =>
    obtain ⟨k, D, d, rs', hk, rfl, hsub, hO, hB1, hB2, hB3, hb, hsz4⟩ := hrel
    have HSub := hid hsub
    have HO := hid hO
    have HB1 := hid hB1
    have HB2 := hid hB2
    have HB3 := hid hB3
    have Hb := hid hb
    have HZ := hid hsz4
    clear hsub hO hB1 hB2 hB3 hb hsz4 X0 X1 X2 X3
    obtain ⟨a0, a1, a2, a3⟩ := two_facts HB1.out
    obtain ⟨b0, b1, b2, b3⟩ := two_facts HB3.out
    have htz : (0 : Int) ≤ (k : Int) := by omega
    by_cases hlt : k < n
    · have hti : (k : Int) < (n : Int) := by omega
      have hx : rs[k]? = some (rs[k]'(by have := hl.out; omega)) := List.getElem?_eq_getElem _
      generalize rs[k]'(by have := hl.out; omega) = r at hx
      obtain ⟨b, o, hA, hbl, rx⟩ := (HR.out.below Hb.out).at_ hx
      have sr := hid ((HR.out.below Hb.out).2 r (List.mem_of_getElem? hx))
      have hrn := HS.out r.1 (List.mem_map_of_mem (List.mem_of_getElem? hx))
      have hXK := hid (show (subs rs)[k]? = some r.1 by simp [subs, hx])
      have hszr := rs_size r
      clear hx
      obtain ⟨⟨id, fr, its, lost⟩, rA, rn, rc⟩ := r
      have hrl := sr.out.len
      simp only at hrn hrl
      have hTw := hid (fun W (h : Rd W 0 101 rA rn (itsL its)) => twin23_any rA rn rc lost its sr.out.1 W h (by omega))
      have HIt := hid (show ItsOk its from sr.out.1)
      have hRd := hid (show Rd wr 0 101 rA rn (itsL its) from sr.out.2)
      have HRn := hid hrn
      have hX0 : (rsL ((id, fr, its, lost), rA, rn, rc)).toArray.size = zeroS.size := rfl
      have hXo : ∀ v ∈ (rsL ((id, fr, its, lost), rA, rn, rc)).toArray, v.oneCell' = true := fun v hv => rsL_one _ v (by simpa using hv)
      have hzs := zeroS_run
      have hsA : (Tryd.prog.info? 53).map (·.size) = some zeroS.size := sub_size _ _ _ _
      subst hA
      obtain ⟨ad, had⟩ : ∃ ad, o + k * 4 = ad := ⟨_, rfl⟩
      rw [had] at rx
      clear hrn hrl
      have n1 : g3 ≠ wr.heap.size := by have := l3.out; have := HZ.out; omega
      have n2 : wr.heap.size ≠ g3 := fun e => n1 e.symm
      have n3 : w.heap.size ≠ wr.heap.size := by have := l1.out; have := l2.out; have := l3.out; have := HZ.out; omega
      have n4 : wr.heap.size ≠ w.heap.size := fun e => n3 e.symm
      go_wp2_with (first
        | ((with_reducible refine at_load (d := some 20) 53 ?_); refine wpList_load_mid rfl 53 _ rfl b ad rfl _ _ rx Tryd.underlying53 rfl hszr ?_)
        | ((with_reducible refine at_alloc (d := some 5) 53 ?_); refine wpList_al rfl 53 rfl zeroS (hzs _) ?_; intro v1 hV1 hv1 hy; clear hy)
        | ((with_reducible refine at_store (x := .tmp 5) 53 ?_); refine wpList_str rfl 53 _ _ rfl wr.heap.size (rsL ((id, fr, its, lost), rA, rn, rc)).toArray rfl rfl _ zeroS hV1 hX0 hsA hXo ?_; intro v2 hV2 hg2 hy; clear hy; have q2 := hid (show Below wr.heap.size wr v2 from hv1.grown hg2 hv1.size (by intro k e; cases e; exact Nat.le_refl _)); have V2 := hid (show Blk v2 wr.heap.size 53 #[.int .i64 id, .int .i64 fr, .slice rA rn rc, .bool lost] from hV2); have m2 := hid hV2.lt; clear hV1 hV2 hv1 hg2 a0 a1 a2 a3 b0 b1 b2 b3; obtain ⟨d0, d1, d2, d3, d4, d5, d6, d7⟩ := four_facts V2.out; obtain ⟨a0, a1, a2, a3⟩ := two_facts (HB1.out.belowS q2.out); obtain ⟨b0, b1, b2, b3⟩ := two_facts (HB3.out.belowS q2.out))
        | ((with_reducible refine (hTw.out _ (hRd.out.below q2.out)).mono ?_); rintro e v3 ⟨T, c', rfl, hT, hb3⟩; have HT := hid hT; have q3 := hid hb3; have V3 := hid (V2.out.belowS hb3); clear hT hb3 a0 a1 a2 a3 b0 b1 b2 b3 d0 d1 d2 d3 d4 d5 d6 d7; obtain ⟨d0, d1, d2, d3, d4, d5, d6, d7⟩ := four_facts V3.out; obtain ⟨a0, a1, a2, a3⟩ := two_facts ((HB1.out.belowS q2.out).belowS q3.out); obtain ⟨b0, b1, b2, b3⟩ := two_facts ((HB3.out.belowS q2.out).belowS q3.out))
        | ((with_reducible refine at_load (d := some 27) 53 ?_); have V4 := hid (four_set V3.out (.slice T its.length c') (.bool lost)); have q4 := hid (below_of_chg (below_chain q2.out q3.out) (tap_set_chg v3 wr.heap.size 2 3 (.slice T its.length c') (.bool lost)) (fun b e => by omega)); have HT4 := hid (HT.out.chg (tap_set_chg v3 wr.heap.size 2 3 (.slice T its.length c') (.bool lost)) (fun b hb e => by have := m2.out; omega)); refine wpList_ldr rfl 53 _ rfl wr.heap.size rfl _ _ _ V4.out Tryd.underlying53 rfl (sub_size _ _ _ _) ?_)
        | ((with_reducible refine at_bslice 22 ?_); refine wpList_bsl1 rfl 22 53 1 0 _ rfl _ rfl _ (sub_bsliceV id fr T its.length c' lost _) ?_; intro v5 hB5 hb5 hy; clear hy; have q5 := hid (below_chain q4.out hb5); have hO5 := HO.out.below q5.out; have hO5r := hO5.1; have hT5 := hid (HT4.out.below hb5); have hlo5 : w4.heap.size ≤ v5.heap.size := by have := q5.out.size; have := HZ.out; omega)
        | (at_builtin; refine wpList_app _ rfl _ _ _ rfl w4.heap.size 53 i0 _ 4 48 Tryd.underlying22 hi0 hz0 hz1 hz2 zeroS_cells (by omega) D k d _ rfl hO5r _ 1 1 0 [.int .i64 id, .int .i64 fr, .slice T its.length c', .bool lost] rfl ((hB5.rd (n := 1) (sz := 4) rfl).low (Nat.zero_le _)) (rsL_one ((id, fr, its, lost), T, its.length, c')) (by simp only [maxLen]; omega) (by omega) hlo5 ?_; intro D' d' v7 hO7 hg7 hat; clear a0 a1 a2 a3 b0 b1 b2 b3 d0 d1 d2 d3 d4 d5 d6 d7; have hrow := hO5.row; have Y1 := hid ((HB1.out.belowS q5.out).grown hg7 (fun e => by have := hrow _ e.symm; have := l1.out; have := l2.out; have := l3.out; omega)); have Y2 := hid ((HB2.out.belowS q5.out).grown hg7 (fun e => by have := hrow _ e.symm; have := l1.out; have := l2.out; have := l3.out; omega)); have Y3 := hid ((HB3.out.belowS q5.out).grown hg7 (fun e => by have := hrow _ e.symm; have := l1.out; have := l2.out; have := l3.out; omega)); obtain ⟨a0, a1, a2, a3⟩ := two_facts Y1.out; obtain ⟨b0, b1, b2, b3⟩ := two_facts Y3.out))
      have hSO := SubOwn.new (w := v2) (lo := w4.heap.size) (g := rowOf D d) (id, fr, its, lost) HIt.out hT5.out (by have := q2.out.size; have := HZ.out; omega) (fun b hb => by have := (HO.out.1.row_lt b hb).2; have := q2.out.size; omega)
      have hH := HOwn.pushR hO5 ((id, fr, its, lost), T, its.length, c') hSO hO7 hg7 hat
      have hb7 := (Hb.out.trans (q5.out.mono Hb.out.size)).grown hg7 (by have := q5.out.size; have := Hb.out.size; omega) (fun g e => by have := hrow _ e; have := l0.out; omega)
      have hC8 : Chg v7 (v7.setCell ⟨g3, 1, none⟩ (.slice D' (k + 1) d')) (fun b => b = g3) := (Chg.refl v7 _).setCell (g := g3) (i := 1) _ (.inl rfl)
      have hH8 := hH.chg hC8 (fun b hb e => by have := l3.out; omega)
      have hb8 := below_of_chg hb7 hC8 (fun q e => by have e2 : q = g3 := e; have := l1.out; have := l2.out; omega)
      have Z1 := hC8.blk Y1.out (by have := l1.out; have := l2.out; omega)
      have Z2 := hC8.blk Y2.out (by have := l2.out; omega)
      have Z3 := Y3.out.set_ 1 (.slice D' (k + 1) d')
      have hz8 : w4.heap.size ≤ (v7.setCell ⟨g3, 1, none⟩ (.slice D' (k + 1) d')).heap.size := by have := hg7.size; simp only [World.size_setCell]; omega
      refine ⟨⟨k + 1, D', d', _, by omega, by go_num, ?_, hH8, Z1, Z2, Z3, hb8, hz8⟩, by simp [intOf]; omega⟩
      rw [take_next hXK.out, ← HSub.out]
      simp [subs]
    · obtain rfl : k = n := by omega
      have hti : ¬ (k : Int) < (k : Int) := by omega
      obtain ⟨c0, c1, c2, c3⟩ := two_facts HB2.out
      have n1 : g2 ≠ g3 := by have := l2.out; omega
      go_wp2
      have B := HB2.out.both (c := .int .i64 nx) (d := .slice D k d)
      have hC := chg_both wr g2 (.int .i64 nx) (.slice D k d)
      have hHf := (HO.out.chg hC (fun b hb e => by have := l2.out; have := l3.out; omega)).low (lo' := w.heap.size) l0.out
      have hbf := below_of_chg Hb.out hC (fun q e => by have e2 : q = g2 := e; have := l1.out; omega)
      generalize (wr.setCell ⟨g2, 0, none⟩ (.int .i64 nx)).setCell ⟨g2, 1, none⟩ (.slice D k d) = wf at *
      obtain ⟨e0, e1, _, _⟩ := two_facts B
      refine bodyPost_ret (v := .agg #[.int .i64 nx, .slice D k d]) (by simp [results, Tryd.f17, go_sem, e0, e1]) rfl ?_
      refine ⟨D, k, d, rs', rfl, ?_, hHf, hbf⟩
      rw [HSub.out, List.take_of_length_le (by simp [subs]; have := hl.out; omega)]
end Go.Proofs.YtmepbokoopgmiaaDoor
