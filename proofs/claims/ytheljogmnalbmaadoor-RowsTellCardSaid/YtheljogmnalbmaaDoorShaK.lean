/-
  Contracts of the reference's words, round, schedule.
-/
import Derived.Test.YtheljogmnalbmaaDoorShaJ
namespace Go.Proofs.YtheljogmnalbmaaDoor
open Go.RowKit
attribute [local go_sem high] b_add b_xor b_and b_or b_not b_compl b_shr b_shl

theorem turn_w (a : UInt32) (k : Int) (h0 : 1 ≤ k) (h1 : k ≤ 31) (w : World) : Calls Tryd.prog 61 #[.int .u32 (a.toNat : Int), .int .u32 k] w fun e w' => e = .returned (.int .u32 ((wrot a k.toNat).toNat : Int)) ∧ w = w' := by
  have h := turn_any a k.toNat (by omega) (by omega) w
  have e : ((k.toNat : Nat) : Int) = k := by omega
  rw [e] at h
  exact h.mono fun _ _ h => ⟨h.1, h.2.symm⟩
theorem turn_q (a : UInt32) (k : Int) (h0 : 1 ≤ k) (h1 : k ≤ 31) (w : World) : Calls Tryd.prog 61 #[.int .u32 (a.toNat : Int), .int .u32 k] w fun e w' => e = .returned (.int .u32 ((wrot a k.toNat).toNat : Int)) ∧ w' = w :=
  (turn_w a k h0 h1 w).mono fun _ _ h => ⟨h.1, h.2.symm⟩
theorem zero8_run' (w : World) : (zeroValue 70).run Tryd.prog w = .ok (.agg zero8) w := by kernel_rfl
theorem size8 (a b c d e f g h : UInt32) : (Tryd.prog.info? 70).map (·.size) = some (wrow [a, b, c, d, e, f, g, h]).size := by kernel_rfl

set_option maxRecDepth 100000 in
set_option maxHeartbeats 2000000 in
theorem round_any (a b c d e f g h kt wt : UInt32) (w : World) :
    Calls Tryd.prog 59 #[.agg (wrow [a, b, c, d, e, f, g, h]), .int .u32 (kt.toNat : Int), .int .u32 (wt.toNat : Int)] w fun e' w' => e' = .returned (.agg (wrow (rnd [a, b, c, d, e, f, g, h] kt wt))) ∧ Below w.heap.size w w' := by
  have hz8 : (Tryd.prog.info? 70).map (·.size) = some zero8.size := by kernel_rfl
  have hrn : rnd [a, b, c, d, e, f, g, h] kt wt = [wadd (mixOne [a, b, c, d, e, f, g, h] kt wt) (mixTwo [a, b, c, d, e, f, g, h]), a, b, c, wadd d (mixOne [a, b, c, d, e, f, g, h] kt wt), e, f, g] := rfl
  rw [hrn]
  clear hrn
  go_enter Tryd.func59, Tryd.ntmps59
  go_wp2_with (first
    | (refine wpList_bx rfl 70 _ rfl (wrow [a, b, c, d, e, f, g, h]) rfl ?_; intro w1 hV1 hb1 hz1)
    | (refine wpList_al rfl 70 rfl zero8 (zero8_run' _) ?_; intro w2 hR2 hb2 hz2))
  have hV := hV1.belowS hb2
  have hb := hb1.trans (hb2.mono hb1.size)
  have v0 := hV.cellv (i := 0) (v := uv a) rfl
  have v1 := hV.cellv (i := 1) (v := uv b) rfl
  have v2 := hV.cellv (i := 2) (v := uv c) rfl
  have v3 := hV.cellv (i := 3) (v := uv d) rfl
  have v4 := hV.cellv (i := 4) (v := uv e) rfl
  have v5 := hV.cellv (i := 5) (v := uv f) rfl
  have v6 := hV.cellv (i := 6) (v := uv g) rfl
  have v7 := hV.cellv (i := 7) (v := uv h) rfl
  unfold uv at v0 v1 v2 v3 v4 v5 v6 v7
  go_quiet (fail)
  have hR : Blk (w2.drewN nq) w1.heap.size 70 zero8 := hR2.drewN nq
  rw [hz1] at hR
  have hb' : Below w.heap.size w (w2.drewN nq) := ⟨hb.os, hb.tape, hb.output, hb.size, hb.block⟩
  generalize w2.drewN nq = wq at *
  clear v0 v1 v2 v3 v4 v5 v6 v7 hV hV1 hb hb1 hb2 hR2
  go_wp2_with (first
    | (go_at_call 61; refine (turn_w _ _ (by decide) (by decide) _).mono ?_; rintro e1 w1 ⟨rfl, rfl⟩)
    | (refine wpList_str rfl 70 _ _ rfl (w.heap.size + 1) (wrow [wadd (mixOne [a, b, c, d, e, f, g, h] kt wt) (mixTwo [a, b, c, d, e, f, g, h]), a, b, c, wadd d (mixOne [a, b, c, d, e, f, g, h] kt wt), e, f, g]) rfl rfl _ zero8 hR rfl hz8 (wrow_one _) ?_; intro w5 hV5 hg5 hz5))
  exact bodyPost_ret (results_dig1 (p := 6) rfl _ w5 (w.heap.size + 1) _ 8 _ rfl hV5 Tryd.underlying70 (size8 _ _ _ _ _ _ _ _)) rfl ⟨rfl, hb'.grown hg5 hb'.size (by intro g e; cases e; omega)⟩

theorem zero64_size : (Tryd.prog.info? 81).map (·.size) = some zero64.size := by kernel_rfl
theorem zero64_one : ∀ v ∈ zero64, v.oneCell' = true := wrow_one _

set_option maxRecDepth 100000 in
set_option maxHeartbeats 2000000 in
theorem words_any (w : World) : Calls Tryd.prog 57 #[] w fun e' w' => e' = .returned (.agg (wrow kList)) ∧ Below w.heap.size w w' := by
  have hbd : ∀ W : World, (Instr.build 81 #[]).run Tryd.prog W = (Instr.build 81 #[]).run Tryd.prog W := fun _ => rfl
  clear hbd
  go_enter Tryd.func57, Tryd.ntmps57
  go_wp2_with (first
    | (refine wpList_al rfl 81 rfl zero64 (zero64_run _) ?_; intro w1 hV1 hb1 hz1)
    | (refine wpList_str rfl 81 _ _ rfl w.heap.size (wrow kList) rfl rfl _ zero64 hV1 rfl zero64_size (wrow_one _) ?_; intro w5 hV5 hg5 hz5))
  exact bodyPost_ret (results_dig1 (p := 0) rfl _ w5 w.heap.size _ 64 _ rfl hV5 Tryd.underlying81 zero64_size) rfl ⟨rfl, hb1.grown hg5 hb1.size (by intro g e; cases e; omega)⟩
end Go.Proofs.YtheljogmnalbmaaDoor
