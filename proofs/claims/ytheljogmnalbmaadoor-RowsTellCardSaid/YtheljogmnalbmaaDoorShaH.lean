/-
  Contract of sha's block.
-/
import Derived.Test.YtheljogmnalbmaaDoorShaF
import Derived.Test.YtheljogmnalbmaaDoorShaG
import Derived.Test.YtheljogmnalbmaaDoorReg
import Derived.StillTailTactics
namespace Go.Proofs.YtheljogmnalbmaaDoor
open Go.RowKit
attribute [local go_sem high] b_add b_xor b_and b_or b_not b_compl b_shr b_shl

/-- The constants stand in their variable. -/
def KOk (w : World) : Prop := ∀ t, t < 64 → w.cell? ⟨0, t, none⟩ = some (uv (kAt t))
theorem KOk.below {w w' : World} (h : KOk w) (hb : Below w.heap.size w w') : KOk w' := fun t ht => by
  have h1 := h t ht
  rw [← h1]
  exact World.cell?_of_block (hb.block _ (World.block_lt_of_cell? w _ h1))
theorem KOk.grown {w w' : World} {b : Nat} (h : KOk w) (hg : w.grownBy w' (some b)) (hb : b ≠ 0) : KOk w' := fun t ht => by
  have h1 := h t ht
  rw [← h1]
  exact World.cell?_of_block (hg.block _ (World.block_lt_of_cell? w _ h1) (fun e => hb (by simpa using e.symm)))
theorem KOk.lt {w : World} (h : KOk w) : 0 < w.heap.size := World.block_lt_of_cell? w _ (h 0 (by omega))
theorem grown_of_below {w w' : World} (hb : Below w.heap.size w w') (row : Option Nat) : w.grownBy w' row := ⟨hb.os, hb.tape, hb.output, hb.size, fun k hk _ => hb.block k hk⟩
theorem grown_drew {w w' : World} {row : Option Nat} (hb : w.grownBy w' row) : w.grownBy w'.drew row := ⟨hb.os, hb.tape, hb.output, hb.size, hb.block⟩
/-- The state while the sums are made. -/
def addRow (s v : List UInt32) (i : Nat) : List UInt32 := List.zipWith wadd (s.take i) (v.take i) ++ s.drop i
theorem addRow_zero (s v : List UInt32) : addRow s v 0 = s := by simp [addRow]
theorem lt8 {i : Nat} (h : i < 8) : i = 0 ∨ i = 1 ∨ i = 2 ∨ i = 3 ∨ i = 4 ∨ i = 5 ∨ i = 6 ∨ i = 7 := by omega
theorem addRow_len (s v : List UInt32) (hs : s.length = 8) (hv : v.length = 8) (i : Nat) (hi : i ≤ 8) : (addRow s v i).length = 8 := by
  simp [addRow, hs, hv]
  omega
theorem addRow_getD (s v : List UInt32) (hs : s.length = 8) (hv : v.length = 8) (i : Nat) (hi : i < 8) : (addRow s v i).getD i 0 = s.getD i 0 := by
  match s, v, hs, hv with
  | [a, b, c, d, e, f, g, h], [a', b', c', d', e', f', g', h'], _, _ => rcases lt8 hi with rfl | rfl | rfl | rfl | rfl | rfl | rfl | rfl <;> rfl
theorem addRow_set (s v : List UInt32) (hs : s.length = 8) (hv : v.length = 8) (i : Nat) (hi : i < 8) : (wrow (addRow s v i)).setIfInBounds i (uv (wadd (s.getD i 0) (v.getD i 0))) = wrow (addRow s v (i + 1)) := by
  match s, v, hs, hv with
  | [a, b, c, d, e, f, g, h], [a', b', c', d', e', f', g', h'], _, _ => rcases lt8 hi with rfl | rfl | rfl | rfl | rfl | rfl | rfl | rfl <;> rfl
theorem addRow_full (s v : List UInt32) (hs : s.length = 8) (hv : v.length = 8) : addRow s v 8 = List.zipWith wadd s v := by
  simp [addRow, List.take_of_length_le, hs, hv]
theorem KOk.drew {w : World} (h : KOk w) : KOk w.drew := h
def zero64 : Array Value := wrow (List.replicate 64 0)
theorem wbyte_nat (c : UInt8) : ((wbyte c).toNat : Int) = (c.toNat : Int) := by
  have := c.toNat_lt
  unfold wbyte
  rw [UInt32.toNat_ofNat']
  omega
theorem u32_in (x : UInt32) : IntKind.u32.wrap (x.toNat : Int) = (x.toNat : Int) := by
  have := x.toNat_lt
  rw [u32_wrap, UInt32.toNat_ofNat']
  omega
theorem rd_word {w : World} {b o : Nat} {bs : List UInt8} {n k : Nat} (hcell : ∀ j, j < n * 1 → w.cell? ⟨b, o + j, none⟩ = (bs.map bv)[j]?) (hl : bs.length = n) (hk : k < n) : w.cell? ⟨b, o + k, none⟩ = some (.int .u8 ((wbyte (bs.getD k 0)).toNat : Int)) := by
  rw [hcell k (by omega), List.getElem?_map, List.getElem?_eq_getElem (by omega : k < bs.length)]
  have : bs.getD k 0 = bs[k]'(by omega) := by rw [List.getD_eq_getElem?_getD, List.getElem?_eq_getElem (by omega)]; rfl
  rw [this, wbyte_nat]
  rfl
def zero8 : Array Value := wrow (List.replicate 8 0)
theorem zero8_size : zero8.size = 8 := by decide
theorem zero8_run (w : World) : (zeroValue 71).run Tryd.prog w = .ok (.agg zero8) w := by kernel_rfl
theorem wrow_one (l : List UInt32) : ∀ v ∈ wrow l, v.oneCell' = true := by
  intro v hv
  simp only [wrow, List.mem_toArray, List.mem_map] at hv
  obtain ⟨u, _, rfl⟩ := hv
  rfl
theorem len8 {l : List UInt32} (h : l.length = 8) : ∃ a b c d e f g i, l = [a, b, c, d, e, f, g, i] := by
  match l, h with
  | [a, b, c, d, e, f, g, i], _ => exact ⟨a, b, c, d, e, f, g, i, rfl⟩
theorem zero64_run (w : World) : (zeroValue 81).run Tryd.prog w = .ok (.agg zero64) w := by kernel_rfl

set_option maxRecDepth 100000 in
set_option maxHeartbeats 4000000 in
theorem block_any (g : Nat) (s : List UInt32) (hs : s.length = 8) (A : Option Addr) (c lo : Nat) (bs : List UInt8) (w : World) (hg : Blk w g 71 (wrow s)) (hr : Rd w lo 1 A 64 (bs.map bv)) (hK : KOk w) :
    Calls Tryd.prog 45 #[.pointer (some ⟨g, 0, none⟩), .slice A 64 c] w fun e w' => e = .returned (.tuple #[]) ∧ Blk w' g 71 (wrow (comp s bs)) ∧ w.grownBy w' (some g) := by
  go_enter Tryd.func45, Tryd.ntmps45
  go_wp2_with (refine wpList_al rfl 81 rfl zero64 (zero64_run _) ?_; intro w1 hB1 hb1 hz1)
  have hK1 := hK.below hb1
  have hg1 := hg.belowS hb1
  have hr1 := hr.below hb1
  have hbl : bs.length = 64 := by simpa using hr.1
  obtain ⟨b, o, rfl, hlo, hbw, _⟩ := hr.lt (by omega)
  go_loopw [19, 5, 6, 7] (fun i _ _ _ wr => ∃ t : Nat, t ≤ 64 ∧ i = .int .i64 t ∧ Blk wr w.heap.size 81 (schRow bs t) ∧ Below w.heap.size w wr) (fun i _ _ _ _ => 64 - (intOf i).toNat)
  case atStart => exact ⟨0, Nat.zero_le _, rfl, by rw [schRow_zero]; exact hB1, hb1⟩
  case round =>
    obtain ⟨t, ht, rfl, hB, hb⟩ := hrel
    by_cases hlt : t < 64
    · --<
      by_cases h16 : t < 16
      · have hrw := hr.below hb
        obtain ⟨b', o', e', _, _, hcell⟩ := hrw.lt (by omega)
        simp only [Option.some.injEq, Addr.mk.injEq, and_true] at e'
        obtain ⟨rfl, rfl⟩ := e'
        have c0 := rd_word hcell hbl (k := 4 * t) (by omega)
        have c1 := rd_word hcell hbl (k := 4 * t + 1) (by omega)
        have c2 := rd_word hcell hbl (k := 4 * t + 2) (by omega)
        have c3 := rd_word hcell hbl (k := 4 * t + 3) (by omega)
        have e0 : IntKind.i64.wrap (4 * (t : Int)) = 4 * (t : Int) := IntWalk.i64_in _ (by omega)
        have e1 : IntKind.i64.wrap (4 * (t : Int) + 1) = 4 * (t : Int) + 1 := IntWalk.i64_in _ (by omega)
        have e2 : IntKind.i64.wrap (4 * (t : Int) + 2) = 4 * (t : Int) + 2 := IntWalk.i64_in _ (by omega)
        have e3 : IntKind.i64.wrap (4 * (t : Int) + 3) = 4 * (t : Int) + 3 := IntWalk.i64_in _ (by omega)
        have hW := hid (be4_wor (bs.getD (4 * t) 0) (bs.getD (4 * t + 1) 0) (bs.getD (4 * t + 2) 0) (bs.getD (4 * t + 3) 0))
        have hct := hB.cellv (schRow_next bs t hlt)
        have hft := hB.frozen t
        unfold uv at hct
        generalize hx0 : wbyte (bs.getD (4 * t) 0) = x0 at *
        generalize hx1 : wbyte (bs.getD (4 * t + 1) 0) = x1 at *
        generalize hx2 : wbyte (bs.getD (4 * t + 2) 0) = x2 at *
        generalize hx3 : wbyte (bs.getD (4 * t + 3) 0) = x3 at *
        have f0 := u32_in x0
        have f1 := u32_in x1
        have f2 := u32_in x2
        have f3 := u32_in x3
        have b0 : (0 : Int) ≤ 4 * (t : Int) ∧ 4 * (t : Int) < 64 := by omega
        have b1 : (0 : Int) ≤ 4 * (t : Int) + 1 ∧ 4 * (t : Int) + 1 < 64 := by omega
        have b2 : (0 : Int) ≤ 4 * (t : Int) + 2 ∧ 4 * (t : Int) + 2 < 64 := by omega
        have b3 : (0 : Int) ≤ 4 * (t : Int) + 3 ∧ 4 * (t : Int) + 3 < 64 := by omega
        have b4 : (0 : Int) ≤ (t : Int) ∧ (t : Int) < 64 := by omega
        have n0 : (4 * (t : Int)).toNat = 4 * t := by omega
        have n1 : (4 * (t : Int) + 1).toNat = 4 * t + 1 := by omega
        have n2 : (4 * (t : Int) + 2).toNat = 4 * t + 2 := by omega
        have n3 : (4 * (t : Int) + 3).toNat = 4 * t + 3 := by omega
        obtain ⟨b00, b01⟩ := b0
        obtain ⟨b10, b11⟩ := b1
        obtain ⟨b20, b21⟩ := b2
        obtain ⟨b30, b31⟩ := b3
        obtain ⟨b40, b41⟩ := b4
        clear hcell hrw
        go_wp2_with fail
        go_still_tail 35, (by kernel_rfl)
        change wpList _ _ _ _ _ wr.drew
        go_wp2_with fail
        go_roundw
        case rel =>
          refine ⟨t + 1, by omega, by go_num, ?_, (hb.drew).setCell (Nat.le_refl _) _⟩
          rw [← schRow_set bs t hlt, if_pos h16]
          have := hW.out
          unfold wordB
          rw [← this]
          exact hB.drew.set_ _ _
        case measure => simp [intOf]; omega
      · obtain ⟨p16, h16⟩ : ∃ p, p + 16 = t := ⟨t - 16, by omega⟩
        obtain ⟨p15, h15⟩ : ∃ p, p + 15 = t := ⟨t - 15, by omega⟩
        obtain ⟨p7, h7⟩ : ∃ p, p + 7 = t := ⟨t - 7, by omega⟩
        obtain ⟨p2, h2⟩ : ∃ p, p + 2 = t := ⟨t - 2, by omega⟩
        have c16 := hB.cellv (schRow_at bs t p16 (by omega))
        have c15 := hB.cellv (schRow_at bs t p15 (by omega))
        have c7 := hB.cellv (schRow_at bs t p7 (by omega))
        have c2 := hB.cellv (schRow_at bs t p2 (by omega))
        have hct := hB.cellv (schRow_next bs t hlt)
        have hft := hB.frozen t
        unfold uv at c16 c15 c7 c2 hct
        have e16 : IntKind.i64.wrap ((t : Int) - 16) = (p16 : Int) := by rw [show (t : Int) - 16 = (p16 : Int) by omega]; exact IntWalk.i64_in _ (by omega)
        have e15 : IntKind.i64.wrap ((t : Int) - 15) = (p15 : Int) := by rw [show (t : Int) - 15 = (p15 : Int) by omega]; exact IntWalk.i64_in _ (by omega)
        have e7 : IntKind.i64.wrap ((t : Int) - 7) = (p7 : Int) := by rw [show (t : Int) - 7 = (p7 : Int) by omega]; exact IntWalk.i64_in _ (by omega)
        have e2 : IntKind.i64.wrap ((t : Int) - 2) = (p2 : Int) := by rw [show (t : Int) - 2 = (p2 : Int) by omega]; exact IntWalk.i64_in _ (by omega)
        have b16 : (p16 : Int) < 64 := by omega
        have b15 : (p15 : Int) < 64 := by omega
        have b7 : (p7 : Int) < 64 := by omega
        have b2 : (p2 : Int) < 64 := by omega
        have bt : (t : Int) < 64 := by omega
        have z16 : (0 : Int) ≤ (p16 : Int) := by omega
        have z15 : (0 : Int) ≤ (p15 : Int) := by omega
        have z7 : (0 : Int) ≤ (p7 : Int) := by omega
        have z2 : (0 : Int) ≤ (p2 : Int) := by omega
        have HN : Hid (nextW (sch bs t) t = wadd (wadd (wadd ((sch bs t).getD p16 0) (sgA ((sch bs t).getD p15 0))) ((sch bs t).getD p7 0)) (sgB ((sch bs t).getD p2 0))) := by
          apply hid
          unfold nextW
          rw [show t - 16 = p16 by omega, show t - 15 = p15 by omega, show t - 7 = p7 by omega, show t - 2 = p2 by omega]
        generalize hy16 : (sch bs t).getD p16 0 = x16 at *
        generalize (sch bs t).getD p15 0 = x15 at *
        generalize hy7 : (sch bs t).getD p7 0 = x7 at *
        generalize (sch bs t).getD p2 0 = x2 at *
        go_wp2_with fail
        go_quiet (fail)
        have hbq : Below w.heap.size w (wr.drewN nq) := ⟨hb.os, hb.tape, hb.output, hb.size, hb.block⟩
        have hBq := hB.drewN nq
        generalize wr.drewN nq = wq at *
        clear c16 c15 c7 c2 hct hft
        have c16 := hBq.cellv (schRow_at bs t p16 (by omega))
        have c7 := hBq.cellv (schRow_at bs t p7 (by omega))
        have hct := hBq.cellv (schRow_next bs t hlt)
        have hft := hBq.frozen t
        unfold uv at c16 c7 hct
        rw [hy16] at c16
        rw [hy7] at c7
        go_wp2_with fail
        go_still_tail 29, (by kernel_rfl)
        still_call (turned_any x15 7 (by omega) (by omega) _)
        repeat still_step
        still_call (turned_any x15 18 (by omega) (by omega) _)
        repeat still_step
        still_call (turned_any x2 17 (by omega) (by omega) _)
        repeat still_step
        still_call (turned_any x2 19 (by omega) (by omega) _)
        repeat still_step
        refine wpStill_nil ?_
        change wpList _ _ _ _ _ wq.drew
        go_wp2_with fail
        go_roundw
        case rel =>
          refine ⟨t + 1, by omega, by go_num, ?_, hbq.drew.setCell (Nat.le_refl _) _⟩
          rw [← schRow_set bs t hlt, if_neg (by omega), HN.out]
          exact hBq.drew.set_ _ _
        case measure => simp [intOf]; omega
    -->
    · have h64 : t = 64 := by omega
      subst h64
      rw [schRow_full] at hB
      have hgr := hg.below hb hg.lt
      have hKr : KOk wr := fun t ht => by rw [← hK t ht]; exact World.cell?_of_block (hb.block _ (World.block_lt_of_cell? w _ (hK t ht)))
      have hs0 := wrow_size s
      rw [hs] at hs0
      have hzs : (Tryd.prog.info? 71).map (·.size) = some (wrow s).size := by rw [hs0]; kernel_rfl
      have hgl := hg.lt
      have hcz0 : (wrow (List.replicate 8 0)).size = 8 := by decide
      go_wp2_with (first
        | (refine wpList_ldr rfl 71 _ rfl g rfl _ (wrow s) _ hgr Tryd.underlying71 rfl hzs ?_)
        | (refine wpList_al rfl 71 rfl zero8 (zero8_run _) ?_; intro w3 hV3 hb3 hz3)
        | (refine wpList_str rfl 71 _ _ rfl wr.heap.size (wrow s) rfl rfl _ zero8 hV3 (by rw [hs0]; rfl) (by rw [zero8_size]; kernel_rfl) (wrow_one s) ?_; intro w4 hV4 hg4 hz4))
      have hb04 : Below w.heap.size w w4 := hb.trans ((hb3.grown hg4 hb3.size (by simp)).mono hb.size)
      have hlt4 := hV4.lt
      have hgr3 := hgr.belowS hb3
      have hg4s : Blk w4 g 71 (wrow s) := hgr3.grown hg4 (by simp; have := hgr.lt; omega)
      have hB4 : Blk w4 w.heap.size 81 (wrow (sch bs 64)) := (hB.belowS hb3).grown hg4 (by simp; have := hB.lt; omega)
      have hK4 : KOk w4 := fun t ht => by rw [← hK t ht]; exact World.cell?_of_block (hb04.block _ (World.block_lt_of_cell? w _ (hK t ht)))
      have hBl := hB.lt
      have hvg : wr.heap.size ≠ g := by have := hgr.lt; omega
      have hvw : wr.heap.size ≠ w.heap.size := by omega
      clear hgr3 hV3
      generalize hWS : sch bs 64 = ws at *
      have hwl : ws.length = 64 := by rw [← hWS]; exact sch_len bs 64
      have HWS := hid hWS
      clear hWS
      obtain ⟨wo, rfl⟩ : ∃ wo : World, wo = wr := ⟨_, rfl⟩
      have hwlI := hid hwl
      clear hz4 hz3 hz1 hzs hs0 hcz0 hgl hbl hbw hlo hr hr1 hg1 hK1 hB1 hb1 hwl hB hb hgr hKr hb3 hg4 hlt4
      go_loopw [100, 9, 10, 11, 12, 13, 14, 15, 16, 17] (fun i _ _ _ _ _ _ _ _ _ wx => ∃ t : Nat, t ≤ 64 ∧ i = .int .i64 t ∧ Blk wx wo.heap.size 71 (wrow (rnds s ws t)) ∧ Blk wx g 71 (wrow s) ∧ Blk wx w.heap.size 81 (wrow ws) ∧ KOk wx ∧ Below w.heap.size w wx) (fun i _ _ _ _ _ _ _ _ _ _ => 64 - (intOf i).toNat)
      case atStart => exact ⟨0, Nat.zero_le _, rfl, hV4, hg4s, hB4, hK4, hb04⟩
      case round =>
        obtain ⟨t, ht, rfl, hV, hG, hW, hKx, hbx⟩ := hrel
        clear hV4 hg4s hB4 hK4 hb04
        by_cases hlt : t < 64
        · have hlen := rnds_len s ws hs t
          obtain ⟨a, b1, c1, d, e, f, g1, h, hv⟩ := len8 hlen
          have hkt := hKx t hlt
          have hwt := hW.cellv (wrow_at ws t (by have := hwlI.out; omega))
          have hnext : Hid (rnds s ws (t + 1) = [wadd (mixOne [a, b1, c1, d, e, f, g1, h] (kAt t) (ws.getD t 0)) (mixTwo [a, b1, c1, d, e, f, g1, h]), a, b1, c1, wadd d (mixOne [a, b1, c1, d, e, f, g1, h] (kAt t) (ws.getD t 0)), e, f, g1]) := by
            apply hid
            rw [rnds, hv]
            rfl
          rw [hv] at hV
          have HV := hid hv
          clear hv hlen
          have v0 := hV.cellv (i := 0) (v := uv a) rfl
          have v1 := hV.cellv (i := 1) (v := uv b1) rfl
          have v2 := hV.cellv (i := 2) (v := uv c1) rfl
          have v4 := hV.cellv (i := 4) (v := uv e) rfl
          have v5 := hV.cellv (i := 5) (v := uv f) rfl
          have v6 := hV.cellv (i := 6) (v := uv g1) rfl
          unfold uv at v0 v1 v2 v4 v5 v6
          have hti : (t : Int) < 64 := by omega
          have htz : (0 : Int) ≤ (t : Int) := by omega
          go_wp2_with fail
          go_quiet (fail)
          have hV' := hV.drewN nq
          have hG' := hG.drewN nq
          have hW' := hW.drewN nq
          have hK' : KOk (wr.drewN nq) := hKx
          have hb' : Below w.heap.size w (wr.drewN nq) := ⟨hbx.os, hbx.tape, hbx.output, hbx.size, hbx.block⟩
          generalize wr.drewN nq = wq at *
          clear v0 v1 v2 v4 v5 v6 hkt hwt hV hG hW hKx hbx
          have v7 := hV'.cellv (i := 7) (v := uv h) rfl
          have hkt := hK' t hlt
          have hwt := hW'.cellv (wrow_at ws t (by have := hwlI.out; omega))
          unfold uv at v7 hkt hwt
          have hnx := hnext.out
          clear hnext
          generalize kAt t = kt at *
          generalize ws.getD t 0 = wt at *
          have hnext := hid hnx
          clear hnx
          go_wp2_with fail
          go_quiet ((go_at_call 52; exact Calls.quiet_of_same (turned_int _ _ (by decide) (by decide) _)))
          have hV := hV'.drewN nq
          have hG := hG'.drewN nq
          have hW := hW'.drewN nq
          have hKx : KOk (wq.drewN nq) := hK'
          have hbx : Below w.heap.size w (wq.drewN nq) := ⟨hb'.os, hb'.tape, hb'.output, hb'.size, hb'.block⟩
          generalize wq.drewN nq = wz at *
          clear v7 hkt hwt hV' hG' hW' hK' hb'
          have v3 := hV.cellv (i := 3) (v := uv d) rfl
          unfold uv at v3
          have hzs : (Tryd.prog.info? 71).map (·.size) = some (wrow [a, b1, c1, d, e, f, g1, h]).size := by kernel_rfl
          go_wp2_with (first
            | (go_at_call 52; refine (turned_w _ _ (by decide) (by decide) _).mono ?_; rintro e1 w1 ⟨rfl, rfl⟩)
            | (refine wpList_str rfl 71 _ _ rfl wo.heap.size (wrow [wadd (mixOne [a, b1, c1, d, e, f, g1, h] kt wt) (mixTwo [a, b1, c1, d, e, f, g1, h]), a, b1, c1, wadd d (mixOne [a, b1, c1, d, e, f, g1, h] kt wt), e, f, g1]) rfl rfl _ (wrow [a, b1, c1, d, e, f, g1, h]) hV rfl hzs (wrow_one _) ?_; intro w5 hV5 hg5 hz5))
          go_roundw
          case rel => exact ⟨t + 1, by omega, by go_num, by rw [hnext.out]; exact hV5, hG.grown hg5 (by simpa using hvg.symm), hW.grown hg5 (by simpa using hvw.symm), hKx.grown hg5 (by have := hK.lt; omega), hbx.grown hg5 hbx.size (by intro k hk; cases hk; omega)⟩
          case measure => simp [intOf]; omega
        · have h64 : t = 64 := by omega
          subst h64
          have hvl := rnds_len s ws hs 64
          have hcm : Hid (comp s bs = List.zipWith wadd s (rnds s ws 64)) := by
            apply hid
            unfold comp
            rw [HWS.out]
          generalize rnds s ws 64 = vs at *
          have hgr := grown_of_below hbx (some g)
          clear hlt ht hW hKx hbx
          go_wp2_with fail
          go_loopw [178, 18] (fun i _ wx => ∃ t : Nat, t ≤ 8 ∧ i = .int .i64 t ∧ Blk wx wo.heap.size 71 (wrow vs) ∧ Blk wx g 71 (wrow (addRow s vs t)) ∧ w.grownBy wx (some g)) (fun i _ _ => 8 - (intOf i).toNat)
          case atStart => exact ⟨0, Nat.zero_le _, rfl, hV, by rw [addRow_zero]; exact hG, hgr⟩
          case round =>
            obtain ⟨t, ht, rfl, hV, hG, hgr⟩ := hrel
            by_cases hlt : t < 8
            · have c1 := hG.cellv (wrow_at (addRow s vs t) t (by rw [addRow_len s vs hs hvl t ht]; exact hlt))
              rw [addRow_getD s vs hs hvl t hlt] at c1
              have c2 := hV.cellv (wrow_at vs t (by rw [hvl]; exact hlt))
              have hset := hid (addRow_set s vs hs hvl t hlt)
              have hfr := hG.frozen t
              unfold uv at c1 c2
              have hti : (t : Int) < 8 := by omega
              have htz : (0 : Int) ≤ (t : Int) := by omega
              generalize s.getD t 0 = x at *
              generalize vs.getD t 0 = y at *
              have HS := hid hs
              have HVL := hid hvl
              clear hs hvl
              go_wp2_with fail
              go_still_tail 11, (by kernel_rfl)
              change wpList _ _ _ _ _ wr.drew
              go_wp2_with fail
              go_roundw
              case rel =>
                have g1 := (hV.far (i := t) hvg (uv (wadd x y))).drew
                have g2 := (hG.set_ t (uv (wadd x y))).drew
                rw [hset.out] at g2
                have g3 := grown_drew (grown_set hgr (k := t) (.inl rfl) (uv (wadd x y)))
                repeat apply Exists.intro
                exact ⟨⟨t + 1, by omega, by go_num, g1, g2, g3⟩, rfl⟩
              case measure => simp [intOf]; omega
            · have h8 : t = 8 := by omega
              subst h8
              rw [addRow_full s vs hs hvl, ← hcm.out] at hG
              go_wp2_with fail
              go_end0
              exact ⟨rfl, hG, hgr⟩
end Go.Proofs.YtheljogmnalbmaaDoor
