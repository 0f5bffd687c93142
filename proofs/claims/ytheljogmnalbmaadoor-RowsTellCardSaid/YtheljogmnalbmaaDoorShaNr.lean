/-
  Contract of the reference's Sum.
-/
import Derived.Test.YtheljogmnalbmaaDoorShaMr
namespace Go.Proofs.YtheljogmnalbmaaDoor
open Go.RowKit
attribute [local go_sem high] b_add

theorem grown_trans {w1 w2 w3 : World} {row row' : Option Nat} (h1 : w1.grownBy w2 row) (h2 : w2.grownBy w3 row') (h : ∀ g, row' = some g → row = some g ∨ w1.heap.size ≤ g) : w1.grownBy w3 row :=
  ⟨h2.os.trans h1.os, h2.tape.trans h1.tape, h2.output.trans h1.output, Nat.le_trans h1.size h2.size, fun k hk hne =>
    (h2.block k (Nat.lt_of_lt_of_le hk h1.size) (fun e => by
      rcases h k e.symm with h | h
      · exact hne h.symm
      · omega)).trans (h1.block k hk hne)⟩
theorem below_of_grown' {w0 w1 w2 : World} {B : Nat} {row : Option Nat} (h1 : Below B w0 w1) (h2 : w1.grownBy w2 row) (hB : B ≤ w1.heap.size) (hr : ∀ k, row = some k → B ≤ k) : Below B w0 w2 := h1.grown h2 hB hr
theorem Rd.rowless {w w' : World} {lo n b o : Nat} {xs : List Value} {row : Option Nat} (h : Rd w lo 1 (some ⟨b, o, none⟩) n xs) (hg : w.grownBy w' row) (hne : row ≠ some b) : Rd w' lo 1 (some ⟨b, o, none⟩) n xs :=
  h.grown hg fun g e o' e' => by
    simp only [Option.some.injEq, Addr.mk.injEq] at e'
    exact hne (by rw [e, e'.1])

set_option maxRecDepth 100000 in
set_option maxHeartbeats 4000000 in
theorem sum_any (A : Option Addr) (n c lo : Nat) (M : List UInt8) (w : World) (hr : Rd w lo 1 A n (M.map bv)) (hn : n ≤ 100000) :
    Calls Tryd.prog 53 #[.slice A n c] w fun e w' => e = .returned (.agg ((shaOf M).map bv).toArray) ∧ Below w.heap.size w w' := by
  have hsI : (Tryd.prog.info? 70).map (·.size) = some zero8.size := by kernel_rfl
  have tok1 : True := trivial
  go_enter Tryd.func53, Tryd.ntmps53
  go_wp2_with (first
    | (refine wpList_al rfl 23 rfl zeroD (zeroD_run _) ?_; intro w1 hD1 hb1 hz1)
    | (refine wpList_al rfl 70 rfl zero8 (zero8_run' _) ?_; intro w2 hS2 hb2 hz2)
    | (refine wpList_str rfl 70 _ _ rfl w1.heap.size (wrow hInit) rfl rfl _ zero8 hS2 rfl hsI (wrow_one _) ?_; intro w3 hS3 hg3 hz3)
    | (have hb3 : Below w.heap.size w w3 := hb1.trans ((hb2.grown hg3 hb2.size (by simp)).mono hb1.size); go_at_call 56; refine (padded_any A n c lo M n rfl w3 (hr.below hb3) hn).mono ?_; rintro e w4 ⟨pA, m, d, rfl, hO4, hb4⟩)
    | (go_at_call 57; refine (words_any w4).mono ?_; rintro e w5 ⟨rfl, hb5⟩)
    | (refine wpList_al rfl 81 rfl zero64 (zero64_run _) ?_; intro w6 hK6 hb6 hz6)
    | (refine wpList_str rfl 81 _ _ rfl w5.heap.size (wrow kList) rfl rfl _ zero64 hK6 rfl zero64_size (wrow_one _) ?_; intro w7 hK7 hg7 hz7))
  have hbs3 := hb3.size
  have hbs4 := hb4.size
  have hbs5 := hb5.size
  have hbs6 := hb6.size
  have hbs7 := hg7.size
  have hS3' : Blk w3 (w.heap.size + 1) 70 (wrow hInit) := by rw [← hz1]; exact hS3
  have hD3 : Blk w3 w.heap.size 23 zeroD := (hD1.belowS hb2).grown hg3 (by simp; omega)
  have hltS := hS3'.lt
  have hb36 : Below w3.heap.size w3 w6 := hb4.trans ((hb5.trans (hb6.mono hbs5)).mono hbs4)
  have hS7 : Blk w7 (w.heap.size + 1) 70 (wrow hInit) := (hS3'.belowS hb36).grown hg7 (by simp; omega)
  have hD7 : Blk w7 w.heap.size 23 zeroD := (hD3.belowS hb36).grown hg7 (by simp; omega)
  have hb7 : Below w.heap.size w w7 := (hb3.trans (hb36.mono hbs3)).grown hg7 (by have := hb36.size; omega) (by intro g e; cases e; omega)
  have hml := hO4.1
  have hpm := pad_len M
  have hmd := hO4.2.1
  have hmx := hO4.2.2.1
  have hpl : (pad M).length = M.length + 1 + zerosN M.length + 8 := by rw [pad, padJ_len]
  have hMl : M.length = n := by have := hr.1; simp at this; omega
  have hzl := zerosN_lt M.length
  have hR4 := hO4.rd
  obtain ⟨pb, po, rfl, hpb1, hpb2, _⟩ := hR4.lt (by omega)
  have hR7 : Rd w7 w3.heap.size 1 (some ⟨pb, po, none⟩) m ((pad M).map bv) := ((hR4.below hb5).below (hb6.mono (by omega))).rowless hg7 (by simp; omega)
  have hm : m ≤ 100200 := by omega
  have hpS : pb ≠ w.heap.size + 1 := by omega
  obtain ⟨bK, hbK⟩ : ∃ bK, w5.heap.size = bK := ⟨_, rfl⟩
  rw [hbK] at hK7 ⊢
  have hKlt := hK7.lt
  have hKS : bK ≠ w.heap.size + 1 := by omega
  have hB7 : w.heap.size + 2 ≤ w7.heap.size := by omega
  obtain ⟨L, hL⟩ : ∃ L, pad M = L := ⟨_, rfl⟩
  have HL := hid hL
  rw [hL] at hml hpm hR7
  clear hD1 hS2 hS3 hg3 hb1 hb2 hb3 hb4 hb5 hb6 hK6 hg7 hz1 hz2 hz3 hz6 hz7 hbs3 hbs4 hbs5 hbs6 hbs7 hS3' hD3 hltS hb36 hpl hMl hzl hR4 hO4 hpb1 hpb2 hbK hL hr
  go_loopw [6] (fun v wx => ∃ k : Nat, 64 * k ≤ m ∧ v = .int .i64 (64 * k : Nat) ∧ Blk wx (w.heap.size + 1) 70 (wrow (fold hInit L k)) ∧ w7.grownBy wx (some (w.heap.size + 1))) (fun v _ => m - (intOf v).toNat)
  case atStart => exact ⟨0, Nat.zero_le _, rfl, hS7, World.grownBy.refl w7 _⟩
  case round =>
    clear hS7
    obtain ⟨k, hk, rfl, hS, hg⟩ := hrel
    have hgs := hg.size
    by_cases hlt : 64 * k < m
    · have h64 : 64 * k + 64 ≤ m := by omega
      have hR := hR7.rowless hg (by simp; omega)
      have hK := hK7.grown hg (by simpa using hKS)
      have hlen8 := fold_len hInit L rfl k
      have hrd : Rd wr w3.heap.size 1 (some ⟨pb, po + 64 * k, none⟩) 64 ((blkAt L k).map bv) := by
        refine ⟨by simp [blkAt]; omega, fun _ => ?_⟩
        obtain ⟨b', o', e', hb', _, hc⟩ := hR.lt (by omega)
        simp only [Option.some.injEq, Addr.mk.injEq, and_true] at e'
        obtain ⟨rfl, rfl⟩ := e'
        refine ⟨pb, po + 64 * k, rfl, hb', fun j hj => ?_⟩
        rw [Nat.add_assoc, hc _ (by omega), blkAt, List.getElem?_map, List.getElem?_map, List.getElem?_take, if_pos (by omega), List.getElem?_drop]
      generalize hst : fold hInit L k = st at *
      have HST := hid hst
      have i1 : ((64 * k : Nat) : Int) < (m : Int) := by omega
      have i2 : ((64 * k : Nat) : Int) + 64 ≤ (m : Int) := by omega
      have i3 : (0 : Int) ≤ ((64 * k : Nat) : Int) := by omega
      have i4 : (m : Int) ≤ (d : Int) := by omega
      have i5 : ((64 * k : Nat) : Int) + 64 ≤ (d : Int) := by omega
      generalize hat : 64 * k = at0 at *
      have HAT := hid hat
      have HML := hid hml
      have hcall := hid (fun c' => schedule_any (some ⟨pb, po + at0, none⟩) c' w3.heap.size (blkAt L k) wr hrd)
      have hsz8 : (Tryd.prog.info? 70).map (·.size) = some (wrow st).size := by rw [wrow_size, hlen8]; kernel_rfl
      have H8 := hid hlen8
      clear hst hat hml hlen8 hrd hR
      go_wp2_with fail
      (with_reducible refine (hcall.out _).mono ?_); rintro e x1 ⟨rfl, hx1⟩
      have hws : (wrow (sch (blkAt L k) 64)).size = zero64.size := by rw [wrow_size, sch_len]; rfl
      have hwo := wrow_one (sch (blkAt L k) 64)
      have hSx1 := hS.belowS hx1
      have hx1s := hx1.size
      go_wp2_with (first
        | (refine wpList_al rfl 81 rfl zero64 (zero64_run _) ?_; intro x2 hW2 hx2 hxz2)
        | (refine wpList_str rfl 81 _ _ rfl x1.heap.size (wrow (sch (blkAt L k) 64)) rfl rfl _ zero64 hW2 hws zero64_size hwo ?_; intro x3 hW3 hxg3 hxz3; have hSx3 : Blk x3 (w.heap.size + 1) 70 (wrow st) := (hSx1.belowS hx2).grown hxg3 (by simp; omega))
        | (refine wpList_ldr rfl 70 _ rfl (w.heap.size + 1) rfl _ (wrow st) _ hSx3 Tryd.underlying70 rfl hsz8 ?_)
        | (refine wpList_al rfl 70 rfl zero8 (zero8_run' _) ?_; intro x4 hV4 hx4 hxz4)
        | (refine wpList_str rfl 70 _ _ rfl x3.heap.size (wrow st) rfl rfl _ zero8 hV4 (by rw [wrow_size, H8.out]; rfl) hsI (wrow_one _) ?_; intro x5 hV5 hxg5 hxz5))
      have e3 : x3.heap.size = x1.heap.size + 1 := by omega
      have e2 : x2.heap.size = x1.heap.size + 1 := hxz2
      rw [e3] at hV5
      have hx4s := hx4.size
      have hbx5 : Below wr.heap.size wr x5 := (((hx1.trans (hx2.mono hx1s)).grown hxg3 (by omega) (by intro g e; cases e; omega)).trans (hx4.mono (by omega))).grown hxg5 (by omega) (by intro g e; cases e; omega)
      have hbx35 : Below x3.heap.size x3 x5 := hx4.grown hxg5 hx4s (by intro g e; cases e; omega)
      have hSx5 : Blk x5 (w.heap.size + 1) 70 (wrow st) := hSx3.belowS hbx35
      have hWx5 : Blk x5 x1.heap.size 81 (wrow (sch (blkAt L k) 64)) := hW3.belowS hbx35
      have hKx5 : Blk x5 bK 81 (wrow kList) := hK.belowS hbx5
      have hgx5 : w7.grownBy x5 (some (w.heap.size + 1)) := grown_trans hg (grown_of_below hbx5 none) (by simp)
      have hwl : (sch (blkAt L k) 64).length = 64 := sch_len _ _
      have hx1lt : w7.heap.size ≤ x1.heap.size := by omega
      have hx5s : x1.heap.size + 2 ≤ x5.heap.size := by have := hV5.lt; have := hxg5.size; omega
      obtain ⟨bW, hbW⟩ : ∃ bW, x1.heap.size = bW := ⟨_, rfl⟩
      rw [hbW] at hV5 hWx5 hx1lt hx5s ⊢
      have hws0 : sch (blkAt L k) 64 = sch (blkAt L k) 64 := rfl
      obtain ⟨ws, hwsd⟩ : ∃ ws, sch (blkAt L k) 64 = ws := ⟨_, rfl⟩
      rw [hwsd] at hWx5 hwl ⊢
      have HWS := hid hwsd
      have HWL := hid hwl
      clear hws0 hwsd hwl e3 e2 hV4 hx4s hbx35 hW3 hSx3 hxg3 hxz3 hW2 hx2 hxz2 hx1 hSx1 hx1s hws hwo hx4 hxz4 hxg5 hxz5 hbx5 hK hS hg hgs hbW hcall i1 i2 i3 i4 i5
      obtain ⟨wo, rfl⟩ : ∃ wo : World, wo = wr := ⟨_, rfl⟩
      go_loopw [9] (fun v wx => ∃ t : Nat, t ≤ 64 ∧ v = .int .i64 t ∧ Blk wx (bW + 1) 70 (wrow (rnds st ws t)) ∧ x5.grownBy wx (some (bW + 1))) (fun v _ => 64 - (intOf v).toNat)
      case atStart => exact ⟨0, Nat.zero_le _, rfl, hV5, World.grownBy.refl x5 _⟩
      case round =>
        clear hV5
        obtain ⟨t, ht, rfl, hV, hgv⟩ := hrel
        by_cases hlt2 : t < 64
        · have hlen := rnds_len st ws H8.out t
          obtain ⟨a, b1, c1, d1, e1, f, g1, h, hv⟩ := len8 hlen
          have hKt := (hKx5.grown hgv (by simp; omega)).cellv (wrow_at kList t (by exact hlt2))
          have hWt := (hWx5.grown hgv (by simp)).cellv (wrow_at ws t (by rw [HWL.out]; exact hlt2))
          have hnext : rnds st ws (t + 1) = rnd [a, b1, c1, d1, e1, f, g1, h] (kAt t) (ws.getD t 0) := by rw [rnds, hv]
          rw [hv] at hV
          have hkd : kList.getD t 0 = kAt t := rfl
          rw [hkd] at hKt
          generalize kAt t = kt at *
          generalize ws.getD t 0 = wt at *
          have v0 := hV.cellv (i := 0) (v := uv a) rfl
          have v1 := hV.cellv (i := 1) (v := uv b1) rfl
          have v2 := hV.cellv (i := 2) (v := uv c1) rfl
          have v3 := hV.cellv (i := 3) (v := uv d1) rfl
          have v4 := hV.cellv (i := 4) (v := uv e1) rfl
          have v5 := hV.cellv (i := 5) (v := uv f) rfl
          have v6 := hV.cellv (i := 6) (v := uv g1) rfl
          have v7 := hV.cellv (i := 7) (v := uv h) rfl
          unfold uv at v0 v1 v2 v3 v4 v5 v6 v7 hKt hWt
          have hti : (t : Int) < 64 := by omega
          have htz : (0 : Int) ≤ (t : Int) := by omega
          have hcall : Hid (Calls Tryd.prog 59 #[.agg #[.int .u32 (a.toNat : Int), .int .u32 (b1.toNat : Int), .int .u32 (c1.toNat : Int), .int .u32 (d1.toNat : Int), .int .u32 (e1.toNat : Int), .int .u32 (f.toNat : Int), .int .u32 (g1.toNat : Int), .int .u32 (h.toNat : Int)], .int .u32 (kt.toNat : Int), .int .u32 (wt.toNat : Int)] wr.drew fun e' w' => e' = .returned (.agg (wrow (rnd [a, b1, c1, d1, e1, f, g1, h] kt wt))) ∧ Below wr.drew.heap.size wr.drew w') := hid (round_any a b1 c1 d1 e1 f g1 h kt wt wr.drew)
          have HN := hid hnext
          have HV := hid hv
          clear hnext hv hlen hkd
          go_wp2_with fail
          go_still_tail 7, (by kernel_rfl)
          change wpList _ _ _ _ _ wr.drew
          go_wp2_with fail
          (with_reducible refine hcall.out.mono ?_); rintro e y1 ⟨rfl, hy1⟩
          have hVy : Blk y1 (bW + 1) 70 (wrow [a, b1, c1, d1, e1, f, g1, h]) := hV.drew.belowS hy1
          have hrl : (wrow (rnd [a, b1, c1, d1, e1, f, g1, h] kt wt)).size = (wrow [a, b1, c1, d1, e1, f, g1, h]).size := rfl
          have hro := wrow_one (rnd [a, b1, c1, d1, e1, f, g1, h] kt wt)
          have hgy : x5.grownBy y1 (some (bW + 1)) := grown_trans (grown_drew hgv) (grown_of_below hy1 none) (by simp)
          have hsv := size8 a b1 c1 d1 e1 f g1 h
          go_wp2_with (refine wpList_str rfl 70 _ _ rfl (bW + 1) (wrow (rnd [a, b1, c1, d1, e1, f, g1, h] kt wt)) rfl rfl _ (wrow [a, b1, c1, d1, e1, f, g1, h]) hVy hrl hsv hro ?_; intro y2 hVy2 hgy2 hyz2)
          go_roundw
          case rel => exact ⟨t + 1, by omega, by go_num, by rw [HN.out]; exact hVy2, grown_trans hgy hgy2 (by simp)⟩
          case measure => simp [intOf]; omega
        · obtain rfl : t = 64 := by omega
          have hvl := rnds_len st ws H8.out 64
          have hcm : Hid (comp st (blkAt L k) = List.zipWith wadd st (rnds st ws 64)) := by
            apply hid
            unfold comp
            rw [HWS.out]
          generalize rnds st ws 64 = vs at *
          have hS := hSx5.grown hgv (by simp; omega)
          have hgw : w7.grownBy wr (some (w.heap.size + 1)) := grown_trans hgx5 hgv (fun g e => by cases e; omega)
          have hbVS : bW + 1 ≠ w.heap.size + 1 := by omega
          have HVL := hid hvl
          clear hSx5 hKx5 hgx5 hWx5 hgv hlt2 ht hvl
          rw [show ((64 : Nat) : Int) = 64 from rfl]
          go_wp2_with fail
          obtain ⟨wp, rfl⟩ : ∃ wp : World, wp = wr := ⟨_, rfl⟩
          go_loopw [10] (fun v wx => ∃ t : Nat, t ≤ 8 ∧ v = .int .i64 t ∧ Blk wx (bW + 1) 70 (wrow vs) ∧ Blk wx (w.heap.size + 1) 70 (wrow (addRow st vs t)) ∧ w7.grownBy wx (some (w.heap.size + 1))) (fun v _ => 8 - (intOf v).toNat)
          case atStart => exact ⟨0, Nat.zero_le _, rfl, hV, by rw [addRow_zero]; exact hS, hgw⟩
          case round =>
            clear hV hS hgw
            obtain ⟨t, ht, rfl, hV, hS, hgw⟩ := hrel
            by_cases hlt2 : t < 8
            · have c1 := hS.cellv (wrow_at (addRow st vs t) t (by rw [addRow_len st vs H8.out HVL.out t ht]; exact hlt2))
              rw [addRow_getD st vs H8.out HVL.out t hlt2] at c1
              have c2 := hV.cellv (wrow_at vs t (by rw [HVL.out]; exact hlt2))
              have hset := hid (addRow_set st vs H8.out HVL.out t hlt2)
              have hfr := hS.frozen t
              unfold uv at c1 c2
              have hti : (t : Int) < 8 := by omega
              have htz : (0 : Int) ≤ (t : Int) := by omega
              generalize st.getD t 0 = x at *
              generalize vs.getD t 0 = y at *
              go_wp2_with fail
              go_still_tail 8, (by kernel_rfl)
              change wpList _ _ _ _ _ wr.drew
              go_wp2_with fail
              go_roundw
              case rel =>
                have q1 := (hV.far (i := t) hbVS (uv (wadd x y))).drew
                have q2 := (hS.set_ t (uv (wadd x y))).drew
                rw [hset.out] at q2
                have q3 := grown_drew (grown_set hgw (k := t) (.inl rfl) (uv (wadd x y)))
                exact ⟨t + 1, by omega, by go_num, q1, q2, q3⟩
              case measure => simp [intOf]; omega
            · obtain rfl : t = 8 := by omega
              rw [addRow_full st vs H8.out HVL.out, ← hcm.out] at hS
              go_wp2_with fail
              go_roundw
              case rel =>
                have e1 := HAT.out
                have e2 : fold hInit L (k + 1) = comp st (blkAt L k) := by rw [fold, HST.out]
                exact ⟨k + 1, by omega, by rw [← e1]; congr 1, by rw [e2]; exact hS, hgw⟩
              case measure => simp [intOf]; omega
    · have ek : 64 * k = m := by omega
      have hkL : k = L.length / 64 := by omega
      have eS : fold hInit L k = shaB M := by
        have e0 := HL.out
        rw [hkL, ← e0]
        rfl
      rw [eS] at hS
      have hst : shaOf M = digL (shaB M) 32 := rfl
      have hsl := shaB_len M
      generalize shaB M = st at *
      have hD := hD7.grown hg (by simp)
      have hb := below_of_grown' hb7 hg (by omega) (by intro g e; cases e; omega)
      have HST := hid hst
      have HSL := hid hsl
      have HML := hid hml
      have iN : ¬ ((64 * k : Nat) : Int) < (m : Int) := by omega
      rw [ek] at iN ⊢
      have hbs := hb.size
      have hSlt := hS.lt
      clear hst hsl hml hkL eS hD7 hb7 hK7 hR7 hg hpm hlt hk ek
      go_wp2_with (refine wpList_al rfl 23 rfl zeroD (zeroD_run _) ?_; intro x2 hE2 hx2 hxz2)
      obtain ⟨wl, rfl⟩ : ∃ wl : World, wl = wr := ⟨_, rfl⟩
      have hE2' : Blk x2 wl.heap.size 23 ((digRow st (4 * 0)).map bv).toArray := by rw [digRow_zero]; exact hE2
      have hS2 := hS.belowS hx2
      have hD2 := hD.belowS hx2
      have hb2 := hb.trans (hx2.mono hbs)
      have hx2s : w.heap.size ≤ x2.heap.size := by omega
      clear hE2 hS hD hb hx2 hxz2 hgs
      go_loopw [12, 13] (fun v _ wx => ∃ i : Nat, i ≤ 8 ∧ v = .int .i64 i ∧ Blk wx wl.heap.size 23 ((digRow st (4 * i)).map bv).toArray ∧ x2.grownBy wx (some wl.heap.size)) (fun v _ _ => 8 - (intOf v).toNat)
      case atStart => exact ⟨0, Nat.zero_le _, rfl, hE2', World.grownBy.refl x2 _⟩
      case round =>
        clear hE2'
        obtain ⟨i, hi, rfl, hE, hg⟩ := hrel
        by_cases hlt : i < 8
        · have hti : (i : Int) < 8 := by omega
          have htz : (0 : Int) ≤ (i : Int) := by omega
          go_wp2_with fail
          obtain ⟨wo, rfl⟩ : ∃ wo : World, wo = wr := ⟨_, rfl⟩
          go_loopw [13] (fun v wx => ∃ j : Nat, j ≤ 4 ∧ v = .int .i64 j ∧ Blk wx wl.heap.size 23 ((digRow st (4 * i + j)).map bv).toArray ∧ x2.grownBy wx (some wl.heap.size)) (fun v _ => 4 - (intOf v).toNat)
          case atStart => exact ⟨0, Nat.zero_le _, rfl, hE, hg⟩
          case round =>
            clear hE hg
            obtain ⟨j, hj, rfl, hE, hg⟩ := hrel
            by_cases hlt2 : j < 4
            · have hS := hS2.grown hg (by simp; omega)
              have c1 := hS.cellv (wrow_at st i (by rw [HSL.out]; exact hlt))
              have c2 := hE.cellv (digRow_next st (4 * i + j) (by omega))
              have f2 := hE.frozen (4 * i + j)
              have hset := hid (digRow_set st (4 * i + j) (by omega))
              have hda : digAt st (4 * i + j) = wlow (wshr (st.getD i 0) (24 - 8 * j)) := by
                unfold digAt
                rw [show (4 * i + j) / 4 = i by omega, show (4 * i + j) % 4 = j by omega]
              unfold uv at c1
              generalize digAt st (4 * i + j) = dv at *
              generalize st.getD i 0 = x at *
              have HDA := hid hda
              have hji : (j : Int) < 4 := by omega
              have hjz : (0 : Int) ≤ (j : Int) := by omega
              have ea : 4 * (i : Int) + (j : Int) = ((4 * i + j : Nat) : Int) := by omega
              have eb : (24 - 8 * (j : Int)) = ((24 - 8 * j : Nat) : Int) := by omega
              have ec : ((24 - 8 * j : Nat) : Int) ≤ 24 := by omega
              have ed : ((4 * i + j : Nat) : Int) < 32 := by omega
              have EA := hid ea
              clear hda hS ea
              go_wp2_with fail
              rw [dig_val, ← HDA.out]
              have q1 := hE.set_ (4 * i + j) (bv dv)
              rw [hset.out] at q1
              exact ⟨⟨j + 1, by omega, by go_num, q1, grown_set hg (.inl rfl) _⟩, by simp [intOf]; omega⟩
            · obtain rfl : j = 4 := by omega
              go_wp2_with fail
              go_roundw
              case rel => exact ⟨i + 1, by omega, by go_num, hE, hg⟩
              case measure => simp [intOf]; omega
        · obtain rfl : i = 8 := by omega
          have hE' : Blk wr wl.heap.size 23 ((digRow st 32).map bv).toArray := hE
          rw [digRow_full, ← HST.out] at hE'
          have hD := hD2.grown hg (by simp; omega)
          have hb := below_of_grown' hb2 hg hx2s (by intro g e; cases e; omega)
          have hcz : ((shaOf M).map bv).toArray.size = 32 := by simp [shaOf_len]
          have hone : ∀ v ∈ ((shaOf M).map bv).toArray, v.oneCell' = true := fun v hv => bv_one _ v (by simpa using hv)
          have hzC : (Tryd.prog.info? 23).map (·.size) = some ((shaOf M).map bv).toArray.size := by rw [hcz]; kernel_rfl
          have hzz : ((shaOf M).map bv).toArray.size = zeroD.size := by rw [hcz]; rfl
          have hz0 : (Tryd.prog.info? 23).map (·.size) = some zeroD.size := by kernel_rfl
          have hgs := hg.size
          generalize hC : ((shaOf M).map bv).toArray = C at *
          have HC := hid hC
          clear hlt hi hE hC hcz
          go_wp2_with (first
            | (refine wpList_ldr rfl 23 _ rfl wl.heap.size rfl _ C _ hE' Tryd.underlying23 rfl hzC ?_)
            | (refine wpList_str rfl 23 _ _ rfl w.heap.size C rfl rfl _ zeroD hD hzz hz0 hone ?_; intro y2 hB2 hg2 hz2))
          exact bodyPost_ret (results_dig1 (p := 2) rfl _ y2 w.heap.size C 32 _ rfl hB2 Tryd.underlying23 hzC) rfl ⟨by rw [HC.out], hb.grown hg2 (by omega) (by intro g e; cases e; exact Nat.le_refl _)⟩
end Go.Proofs.YtheljogmnalbmaaDoor
