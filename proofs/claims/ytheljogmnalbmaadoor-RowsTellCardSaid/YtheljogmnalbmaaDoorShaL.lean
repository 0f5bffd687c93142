/-
  Contract of the reference's schedule.
-/
import Derived.Test.YtheljogmnalbmaaDoorShaK
namespace Go.Proofs.YtheljogmnalbmaaDoor
open Go.RowKit
attribute [local go_sem high] b_add b_xor b_and b_or b_not b_compl b_shr b_shl

def w256 (a : UInt32) : UInt32 := 256 * a
theorem w_256 (a : UInt32) : IntKind.u32.wrap (256 * (a.toNat : Int)) = ((w256 a).toNat : Int) := by
  have := u32_wrap (256 * a.toNat)
  rw [Int.natCast_mul] at this
  rw [show (256 : Int) = ((256 : Nat) : Int) from rfl, this]
  unfold w256
  rw [UInt32.toNat_mul, UInt32.toNat_ofNat']
  rfl
theorem b_256 (t : TypeId) (a : UInt32) : binOp .mul t (.int .u32 256) (.int .u32 (a.toNat : Int)) = pure (.int .u32 ((w256 a).toNat : Int)) := by
  rw [← w_256]
  simp [binOp, Op.intArith]
attribute [local go_sem high] b_256
/-- A word's first bytes. -/
def partW (bs : List UInt8) (t : Nat) : Nat → UInt32
  | 0 => 0
  | i + 1 => wadd (w256 (partW bs t i)) (wbyte (bs.getD (4 * t + i) 0))
theorem partW_four (bs : List UInt8) (t : Nat) : partW bs t 4 = wordB bs t := by
  unfold wordB be4
  simp only [partW, Nat.add_zero]
  generalize bs.getD (4 * t) 0 = c0
  generalize bs.getD (4 * t + 1) 0 = c1
  generalize bs.getD (4 * t + 2) 0 = c2
  generalize bs.getD (4 * t + 3) 0 = c3
  have h0 := c0.toNat_lt
  have h1 := c1.toNat_lt
  have h2 := c2.toNat_lt
  have h3 := c3.toNat_lt
  apply UInt32.toNat_inj.1
  unfold wadd w256 wbyte
  simp only [UInt32.toNat_add, UInt32.toNat_mul, UInt32.toNat_ofNat', UInt32.toNat_ofNat]
  omega
def rowP (bs : List UInt8) (t i : Nat) : Array Value := wrow (sch bs t ++ partW bs t i :: List.replicate (63 - t) 0)
theorem rowP_zero (bs : List UInt8) (t : Nat) (h : t < 64) : rowP bs t 0 = schRow bs t := by
  unfold rowP schRow
  rw [show 64 - t = (63 - t) + 1 by omega, List.replicate_succ]
  rfl
theorem rowP_at (bs : List UInt8) (t i : Nat) : (rowP bs t i)[t]? = some (uv (partW bs t i)) := by
  have hl := sch_len bs t
  have hl2 : ((sch bs t).map uv).length = t := by simp [hl]
  unfold rowP wrow
  rw [List.getElem?_toArray, List.map_append, List.getElem?_append_right (by omega), hl2]
  simp
theorem rowP_set (bs : List UInt8) (t i : Nat) : (rowP bs t i).setIfInBounds t (uv (partW bs t (i + 1))) = rowP bs t (i + 1) := by
  have hl := sch_len bs t
  have hl2 : ((sch bs t).map uv).length = t := by simp [hl]
  unfold rowP wrow
  rw [List.setIfInBounds_toArray, List.map_append, List.map_append, List.set_append_right _ _ (by omega), hl2]
  simp
theorem rowP_four (bs : List UInt8) (t : Nat) (h : t < 16) : rowP bs t 4 = schRow bs (t + 1) := by
  unfold rowP schRow
  rw [partW_four, sch, if_pos h, List.append_assoc, show 64 - (t + 1) = 63 - t by omega]
  rfl
theorem wadd_wrap (a : UInt32) : IntKind.u32.wrap (a.toNat : Int) = (a.toNat : Int) := u32_in a

set_option maxRecDepth 100000 in
set_option maxHeartbeats 4000000 in
theorem schedule_any (A : Option Addr) (c lo : Nat) (bs : List UInt8) (w : World) (hr : Rd w lo 1 A 64 (bs.map bv)) :
    Calls Tryd.prog 58 #[.slice A 64 c] w fun e w' => e = .returned (.agg (wrow (sch bs 64))) ∧ Below w.heap.size w w' := by
  have hbl : bs.length = 64 := by simpa using hr.1
  have HBL := hid hbl
  obtain ⟨b, o, rfl, hlo, hbw, _⟩ := hr.lt (by omega)
  clear hbl
  have tok1 : True := trivial
  go_enter Tryd.func58, Tryd.ntmps58
  go_wp2_with (first
    | (clear tok1; refine wpList_al rfl 81 rfl zero64 (zero64_run _) ?_; intro w1 hR1 hb1 hz1)
    | (refine wpList_al rfl 81 rfl zero64 (zero64_run _) ?_; intro w2 hB2 hb2 hz2))
  have hR2 := hR1.belowS hb2
  have hb := hb1.trans (hb2.mono hb1.size)
  rw [hz1] at hB2
  have hB2' : Blk w2 (w.heap.size + 1) 81 (schRow bs 0) := by rw [schRow_zero]; exact hB2
  clear hR1 hb1 hb2 hB2 hz1 hz2
  go_loopw [4, 5] (fun i _ wx => ∃ t : Nat, t ≤ 16 ∧ i = .int .i64 t ∧ Blk wx (w.heap.size + 1) 81 (schRow bs t) ∧ Blk wx w.heap.size 81 zero64 ∧ Below w.heap.size w wx) (fun i _ _ => 16 - (intOf i).toNat)
  case atStart => exact ⟨0, Nat.zero_le _, rfl, hB2', hR2, hb⟩
  case round =>
    clear hB2' hR2 hb
    obtain ⟨t, ht, rfl, hB, hR, hb⟩ := hrel
    by_cases hlt : t < 16
    · --<
      have hti : (t : Int) < 16 := by omega
      have htz : (0 : Int) ≤ (t : Int) := by omega
      rw [← rowP_zero bs t (by omega)] at hB
      go_wp2_with fail
      obtain ⟨wo, rfl⟩ : ∃ wo : World, wo = wr := ⟨_, rfl⟩
      go_loopw [5] (fun v wx => ∃ i : Nat, i ≤ 4 ∧ v = .int .i64 i ∧ Blk wx (w.heap.size + 1) 81 (rowP bs t i) ∧ Blk wx w.heap.size 81 zero64 ∧ Below w.heap.size w wx) (fun v _ => 4 - (intOf v).toNat)
      case atStart => exact ⟨0, Nat.zero_le _, rfl, hB, hR, hb⟩
      case round =>
        clear hB hR hb
        obtain ⟨i, hi, rfl, hB, hR, hb⟩ := hrel
        by_cases hl4 : i < 4
        · have hrw := hr.below hb
          obtain ⟨b', o', e', _, _, hcell⟩ := hrw.lt (by omega)
          simp only [Option.some.injEq, Addr.mk.injEq, and_true] at e'
          obtain ⟨rfl, rfl⟩ := e'
          have c0 := rd_word hcell HBL.out (k := 4 * t + i) (by omega)
          have c1 := hB.cellv (rowP_at bs t i)
          have f1 := hB.frozen t
          have hset := hid (rowP_set bs t i)
          have hpw : partW bs t (i + 1) = wadd (w256 (partW bs t i)) (wbyte (bs.getD (4 * t + i) 0)) := rfl
          generalize partW bs t (i + 1) = y at *
          generalize partW bs t i = x at *
          generalize wbyte (bs.getD (4 * t + i) 0) = z at *
          unfold uv at c1
          have HPW := hid hpw
          have e0 : IntKind.i64.wrap (4 * (t : Int)) = 4 * (t : Int) := IntWalk.i64_in _ (by omega)
          have e1 : IntKind.i64.wrap (4 * (t : Int) + (i : Int)) = 4 * (t : Int) + (i : Int) := IntWalk.i64_in _ (by omega)
          have e2 : (4 * (t : Int) + (i : Int)).toNat = 4 * t + i := by omega
          have b0 : (0 : Int) ≤ 4 * (t : Int) + (i : Int) := by omega
          have b1 : 4 * (t : Int) + (i : Int) < 64 := by omega
          have b2 : (t : Int) < 64 := by omega
          have hli : (i : Int) < 4 := by omega
          have hiz : (0 : Int) ≤ (i : Int) := by omega
          have u1 := u32_in x
          have u2 := u32_in z
          clear hpw hcell hrw
          go_wp2_with fail
          go_still_tail 15, (by kernel_rfl)
          change wpList _ _ _ _ _ wr.drew
          go_wp2_with fail
          have g1 := (hB.set_ t (uv y)).drew
          rw [hset.out, HPW.out] at g1
          exact ⟨⟨i + 1, by omega, by go_num, g1, (hR.far (by omega) _).drew, (hb.setCell (by show _ ≤ w.heap.size + 1; omega) _).drew⟩, by simp [intOf]; omega⟩
        · obtain rfl : i = 4 := by omega
          rw [rowP_four bs t hlt] at hB
          go_wp2_with fail
          go_roundw
          case rel => exact ⟨t + 1, by omega, by go_num, hB, hR, hb⟩
          case measure => simp [intOf]; omega
      -->
    · obtain rfl : t = 16 := by omega
      clear hlt ht
      rw [show ((16 : Nat) : Int) = 16 from rfl]
      go_wp2_with fail
      obtain ⟨wo, rfl⟩ : ∃ wo : World, wo = wr := ⟨_, rfl⟩
      go_loopw [6, 7, 8] (fun i _ _ wx => ∃ t : Nat, 16 ≤ t ∧ t ≤ 64 ∧ i = .int .i64 t ∧ Blk wx (w.heap.size + 1) 81 (schRow bs t) ∧ Blk wx w.heap.size 81 zero64 ∧ Below w.heap.size w wx) (fun i _ _ _ => 64 - (intOf i).toNat)
      case atStart => exact ⟨16, Nat.le_refl _, by omega, rfl, hB, hR, hb⟩
      case round =>
        clear hB hR hb
        obtain ⟨t, h16, ht, rfl, hB, hR, hb⟩ := hrel
        by_cases hlt : t < 64
        · obtain ⟨p16, h16⟩ : ∃ p, p + 16 = t := ⟨t - 16, by omega⟩
          obtain ⟨p15, h15⟩ : ∃ p, p + 15 = t := ⟨t - 15, by omega⟩
          obtain ⟨p7, h7⟩ : ∃ p, p + 7 = t := ⟨t - 7, by omega⟩
          obtain ⟨p2, h2⟩ : ∃ p, p + 2 = t := ⟨t - 2, by omega⟩
          have c15 := hB.cellv (schRow_at bs t p15 (by omega))
          have c2 := hB.cellv (schRow_at bs t p2 (by omega))
          unfold uv at c15 c2
          have e16 : IntKind.i64.wrap ((t : Int) - 16) = (p16 : Int) := by rw [show (t : Int) - 16 = (p16 : Int) by omega]; exact IntWalk.i64_in _ (by omega)
          have e15 : IntKind.i64.wrap ((t : Int) - 15) = (p15 : Int) := by rw [show (t : Int) - 15 = (p15 : Int) by omega]; exact IntWalk.i64_in _ (by omega)
          have e7 : IntKind.i64.wrap ((t : Int) - 7) = (p7 : Int) := by rw [show (t : Int) - 7 = (p7 : Int) by omega]; exact IntWalk.i64_in _ (by omega)
          have e2 : IntKind.i64.wrap ((t : Int) - 2) = (p2 : Int) := by rw [show (t : Int) - 2 = (p2 : Int) by omega]; exact IntWalk.i64_in _ (by omega)
          have b16 : (p16 : Int) < 64 := by omega
          have b15 : (p15 : Int) < 64 := by omega
          have b7 : (p7 : Int) < 64 := by omega
          have b2 : (p2 : Int) < 64 := by omega
          have bt : (t : Int) < 64 := by omega
          have z16 : (0 : Int) ≤ (p16 : Int) := by omega
          have z15 : (0 : Int) ≤ (p15 : Int) := by omega
          have z7 : (0 : Int) ≤ (p7 : Int) := by omega
          have z2 : (0 : Int) ≤ (p2 : Int) := by omega
          have HN : Hid (nextW (sch bs t) t = wadd (wadd (wadd ((sch bs t).getD p16 0) (sgA ((sch bs t).getD p15 0))) ((sch bs t).getD p7 0)) (sgB ((sch bs t).getD p2 0))) := by
            apply hid
            unfold nextW
            rw [show t - 16 = p16 by omega, show t - 15 = p15 by omega, show t - 7 = p7 by omega, show t - 2 = p2 by omega]
          have hy16 : Hid ((schRow bs t)[p16]? = some (uv ((sch bs t).getD p16 0))) := hid (schRow_at bs t p16 (by omega))
          have hy7 : Hid ((schRow bs t)[p7]? = some (uv ((sch bs t).getD p7 0))) := hid (schRow_at bs t p7 (by omega))
          generalize (sch bs t).getD p16 0 = x16 at *
          generalize (sch bs t).getD p15 0 = x15 at *
          generalize (sch bs t).getD p7 0 = x7 at *
          generalize (sch bs t).getD p2 0 = x2 at *
          go_wp2_with fail
          go_quiet (fail)
          have hbq : Below w.heap.size w (wr.drewN nq) := ⟨hb.os, hb.tape, hb.output, hb.size, hb.block⟩
          have hBq := hB.drewN nq
          have hRq := hR.drewN nq
          generalize wr.drewN nq = wq at *
          clear c15 c2 hB hR hb
          have c16 := hBq.cellv hy16.out
          have c7 := hBq.cellv hy7.out
          have hct := hBq.cellv (schRow_next bs t hlt)
          have hft := hBq.frozen t
          unfold uv at c16 c7 hct
          go_wp2_with fail
          go_still_tail 29, (by kernel_rfl)
          still_call (turn_q x15 7 (by omega) (by omega) _)
          repeat still_step
          still_call (turn_q x15 18 (by omega) (by omega) _)
          repeat still_step
          still_call (turn_q x2 17 (by omega) (by omega) _)
          repeat still_step
          still_call (turn_q x2 19 (by omega) (by omega) _)
          repeat still_step
          refine wpStill_nil ?_
          change wpList _ _ _ _ _ wq.drew
          go_wp2_with fail
          go_roundw
          case rel =>
            have g1 := (hBq.set_ t (uv (nextW (sch bs t) t))).drew
            rw [show nextW (sch bs t) t = if t < 16 then wordB bs t else nextW (sch bs t) t from (if_neg (by omega)).symm, schRow_set bs t hlt, if_neg (by omega : ¬ t < 16), HN.out] at g1
            exact ⟨t + 1, by omega, by omega, by go_num, g1, (hRq.far (by omega) _).drew, (hbq.setCell (by show _ ≤ w.heap.size + 1; omega) _).drew⟩
          case measure => simp [intOf]; omega
        · obtain rfl : t = 64 := by omega
          rw [schRow_full] at hB
          have hsz : (Tryd.prog.info? 81).map (·.size) = some (wrow (sch bs 64)).size := by rw [wrow_size, sch_len]; kernel_rfl
          have hsz0 : (wrow (sch bs 64)).size = zero64.size := by rw [wrow_size, sch_len]; rfl
          have hone := wrow_one (sch bs 64)
          generalize hC : wrow (sch bs 64) = C at *
          have HC := hid hC
          clear hC
          go_wp2_with (first
            | (refine wpList_ldr rfl 81 _ rfl (w.heap.size + 1) rfl _ C _ hB Tryd.underlying81 rfl hsz ?_)
            | (refine wpList_str rfl 81 _ _ rfl w.heap.size C rfl rfl _ zero64 hR hsz0 zero64_size hone ?_; intro w5 hB5 hg5 hz5))
          exact bodyPost_ret (results_dig1 (p := 2) rfl _ w5 w.heap.size C 64 _ rfl hB5 Tryd.underlying81 hsz) rfl ⟨by rw [HC.out], hb.grown hg5 hb.size (by intro g e; cases e; exact Nat.le_refl _)⟩
end Go.Proofs.YtheljogmnalbmaaDoor
