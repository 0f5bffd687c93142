/-
  Contract of the reference's Read. Strings of at most 200 bytes.
-/
import Derived.Test.YtpmmgknehmkjlaaShaD
import Derived.Deep.QuietTactic
import Derived.BigQuiet
namespace Go.Proofs.Ytpmmgknehmkjlaa
open Go.RowKit

theorem rdC_set2 (l : List UInt8) (k : Nat) : (rdC l (2 * k)).setIfInBounds k (bv (rdAt l (2 * k + 2) k)) = rdC l (2 * k + 2) := by
  apply Array.ext_getElem?
  intro j
  by_cases hj : j < 32
  · rw [Array.getElem?_setIfInBounds, rdC_at l (2 * k + 2) j hj]
    by_cases e : k = j
    · subst e
      rw [if_pos rfl, if_pos (by rw [rdC_size]; exact hj)]
    · rw [if_neg e, rdC_at l (2 * k) j hj]
      congr 2
      unfold rdAt
      by_cases c1 : 2 * j + 1 < 2 * k
      · rw [if_pos c1, if_pos (by omega)]
      · rw [if_neg c1, if_neg (by omega), if_neg (by omega), if_neg (by omega)]
  · rw [Array.getElem?_eq_none (by simp [rdC_size]; omega), Array.getElem?_eq_none (by simp [rdC_size]; omega)]

theorem rdAt_step2 (l : List UInt8) (k : Nat) (c d : UInt8) (hc : l[2 * k]? = some c) (hd : l[2 * k + 1]? = some d) :
    rdAt l (2 * k + 2) k = UInt8.ofNat (16 * (dg c).toNat + (dg d).toNat) := by
  unfold rdAt
  rw [if_pos (by omega), List.getD_eq_getElem?_getD, List.getD_eq_getElem?_getD, hc, hd]
  rfl

theorem run_index_str (s : ByteArray) (n : Nat) (c : UInt8) (h : s.data.toList[n]? = some c) (W : World) : (Instr.index 9 (.string s) (.int .i64 (n : Int))).run Try.prog W = .ok (.int .u8 (c.toNat : Int)) W := by
  have hlt : n < s.size := by
    have := (List.getElem?_eq_some_iff.1 h).1
    simpa using this
  have h2 : s[n]? = some c := by
    rw [getElem?_pos s n hlt]
    rw [← h, List.getElem?_eq_getElem (by simpa using hlt)]
    rfl
  have h0 : (0 : Int) ≤ (n : Int) := by omega
  simp [Instr.index, asIntOf, run_underlying Try.underlying9, h2]

set_option maxHeartbeats 1000000 in
theorem refRead_long (s : ByteArray) (w : World) (h : ¬ s.size = 64) :
    Calls Try.prog 5 #[.string s] w (GivesDI w (List.replicate 32 0) 2) := by
  have hne : ((s.size : Int) != 64) = true := by rw [bne_iff_ne]; omega
  have hz := dig_size zero32 (by decide)
  go_enter Try.func5, Try.ntmps5
  go_wp2_with (first
    | (have hB1l := hB1.lt; refine wpList_al rfl 23 rfl zero32 (zero32_run _) ?_; intro w2 hB2 hb2 hz2; have hB1' := hB1.belowS hb2; rw [hz1] at hB2)
    | (refine wpList_al rfl 23 rfl zero32 (zero32_run _) ?_; intro w1 hB1 hb1 hz1)
    | (refine wpList_ldr rfl 23 _ rfl (w.heap.size + 1) rfl _ zero32 _ hB2 Try.underlying23 rfl hz ?_)
    | (refine wpList_str rfl 23 _ _ rfl w.heap.size zero32 rfl rfl _ zero32 hB1' rfl hz (by rw [zero32_eq]; exact oneBv _) ?_; intro w3 hB3 hg3 hz3))
  have hb2' : Below w.heap.size w w2 := hb1.trans (hb2.mono hb1.size)
  have hb3 : Below w.heap.size w w3 := hb2'.grown hg3 hb2'.size (by simp)
  exact give_di (p := 2) (t := 3) rfl hB3 (by rw [zero32_eq]) (by simp) rfl rfl rfl hb3

set_option maxHeartbeats 2000000 in
theorem refRead_64 (s : ByteArray) (w : World) (h : s.size = 64) :
    Calls Try.prog 5 #[.string s] w (GivesDI w (readOf s.data.toList).1 (readOf s.data.toList).2) := by
  have hne : ((s.size : Int) != 64) = false := by rw [bne_eq_false_iff_eq]; omega
  have hz := dig_size zero32 (by decide)
  have hl : s.data.toList.length = 64 := by simpa using h
  have Hh := hid h
  clear h
  go_enter Try.func5, Try.ntmps5
  go_wp2_with (first
    | (have hB1l := hB1.lt; refine wpList_al rfl 23 rfl zero32 (zero32_run _) ?_; intro w2 hB2 hb2 hz2; have hB1' := hB1.belowS hb2; rw [hz1] at hB2)
    | (refine wpList_al rfl 23 rfl zero32 (zero32_run _) ?_; intro w1 hB1 hb1 hz1))
  have hb2' : Below w.heap.size w w2 := hb1.trans (hb2.mono hb1.size)
  go_loopw [5, 6, 7] (fun i _ _ wr => ∃ k : Nat, k ≤ 32 ∧ i = .int .i64 k ∧ Blk wr (w.heap.size + 1) 23 (rdC s.data.toList (2 * k)) ∧ Blk wr w.heap.size 23 zero32 ∧ Below w.heap.size w wr ∧ w.heap.size + 1 < wr.heap.size ∧ (∀ j, j < 2 * k → 0 ≤ dg (s.data.toList.getD j 0))) (fun i _ _ _ => 32 - (intOf i).toNat)
  case atStart => exact ⟨0, Nat.zero_le _, rfl, by rw [rdC_zero, ← zero32_eq]; exact hB2, hB1', hb2', by omega, fun j hj => by omega⟩
  case round =>
    obtain ⟨k, hk, rfl, hB, hA, hb, hlw, hgood⟩ := hrel
    by_cases hlt : k < 32
    · have hc : s.data.toList[2 * k]? = some (s.data.toList[2 * k]'(by omega)) := List.getElem?_eq_getElem (by omega)
      have hd : s.data.toList[2 * k + 1]? = some (s.data.toList[2 * k + 1]'(by omega)) := List.getElem?_eq_getElem (by omega)
      generalize s.data.toList[2 * k]'(by omega) = c at hc
      generalize s.data.toList[2 * k + 1]'(by omega) = d at hd
      have hbc := dg_bd c
      have hbd := dg_bd d
      have hi1 : ∀ W, (Instr.index 9 (.string s) (.int .i64 (2 * (k : Int)))).run Try.prog W = .ok (.int .u8 (c.toNat : Int)) W := fun W => by
        have := run_index_str s (2 * k) c hc W
        simpa using this
      have hi2 : ∀ W, (Instr.index 9 (.string s) (.int .i64 (2 * (k : Int) + 1))).run Try.prog W = .ok (.int .u8 (d.toNat : Int)) W := fun W => by
        have := run_index_str s (2 * k + 1) d hd W
        simpa using this
      have e1 : IntKind.i64.wrap (2 * (k : Int)) = 2 * (k : Int) := IntWalk.i64_in _ (by omega)
      have e2 : IntKind.i64.wrap (2 * (k : Int) + 1) = 2 * (k : Int) + 1 := IntWalk.i64_in _ (by omega)
      have HC := hid hc
      have HD := hid hd
      have HG := hid hgood
      clear hc hd hgood
      go_wp2_with fail
      go_quiet ((go_at_call 9; exact Calls.quiet_of_same ((digit_any _ _).mono fun _ _ h => ⟨h.1, h.2.symm⟩)))
      have hb' : Below w.heap.size w (wr.drewN nq) := ⟨hb.os, hb.tape, hb.output, hb.size, hb.block⟩
      have hB' := hB.drewN nq
      have hA' := hA.drewN nq
      have hlw' : w.heap.size + 1 < (wr.drewN nq).heap.size := by simpa using hlw
      by_cases hneg : dg c < 0 ∨ dg d < 0
      · have hbad : readOf s.data.toList = (List.replicate 32 0, 2) := by
          unfold readOf okHex
          have : (s.data.toList.all fun c => decide (0 ≤ dg c)) = false := by
            rw [List.all_eq_false]
            rcases hneg with h | h
            · exact ⟨c, List.mem_of_getElem? HC.out, by simpa using h⟩
            · exact ⟨d, List.mem_of_getElem? HD.out, by simpa using h⟩
          rw [this, Bool.and_false]
          rfl
        have HBAD := hid hbad
        clear hbad
        generalize dg c = q1 at *
        generalize dg d = q2 at *
        generalize wr.drewN nq = wq at *
        clear hi1 hi2
        have hz2 := build_zero wq
        have HN := hid hneg
        clear hneg
        by_cases h1 : q1 < 0
        · go_wp2_with (refine wpList_str rfl 23 _ _ rfl w.heap.size zero32 rfl rfl _ zero32 hA' rfl hz (by rw [zero32_eq]; exact oneBv _) ?_; intro w3 hB3 hg3 hz3)
          rw [HBAD.out]
          exact give_di (p := 2) (t := 3) rfl hB3 (by rw [zero32_eq]) (by simp) rfl rfl rfl (hb'.grown hg3 hb'.size (by simp))
        · have h2 : q2 < 0 := HN.out.resolve_left h1
          go_wp2_with (refine wpList_str rfl 23 _ _ rfl w.heap.size zero32 rfl rfl _ zero32 hA' rfl hz (by rw [zero32_eq]; exact oneBv _) ?_; intro w3 hB3 hg3 hz3)
          rw [HBAD.out]
          exact give_di (p := 2) (t := 3) rfl hB3 (by rw [zero32_eq]) (by simp) rfl rfl rfl (hb'.grown hg3 hb'.size (by simp))
      · have hp1 : 0 ≤ dg c := by omega
        have hp2 : 0 ≤ dg d := by omega
        have hst := hid (rdAt_step2 s.data.toList k c d HC.out HD.out)
        have HG2 : Hid (∀ j, j < 2 * k + 2 → 0 ≤ dg (s.data.toList.getD j 0)) := by
          refine hid fun j hj => ?_
          rcases Nat.lt_or_ge j (2 * k) with h | h
          · exact HG.out j h
          · have : j = 2 * k ∨ j = 2 * k + 1 := by omega
            rcases this with rfl | rfl
            · rw [List.getD_eq_getElem?_getD, HC.out]; exact hp1
            · rw [List.getD_eq_getElem?_getD, HD.out]; exact hp2
        obtain ⟨q1, hq1⟩ := Int.eq_ofNat_of_zero_le hp1
        obtain ⟨q2, hq2⟩ := Int.eq_ofNat_of_zero_le hp2
        rw [hq1, hq2] at hst
        rw [hq1] at hbc ⊢
        rw [hq2] at hbd ⊢
        have hcell := hB'.cellv (rdC_at s.data.toList (2 * k) k hlt)
        have hfr := hB'.frozen k
        unfold bv at hcell
        generalize wr.drewN nq = wq at *
        clear hi1 hi2 hneg hp1 hp2 hq1 hq2
        go_wp2_with fail
        go_roundw
        case rel =>
          refine ⟨k + 1, by omega, by go_num, ?_, hA'.far (by omega) _, hb'.setCell (Nat.le_succ _) _, by simpa using hlw', fun j hj => HG2.out j (by omega)⟩
          have e : 2 * (k + 1) = 2 * k + 2 := by omega
          rw [e, ← rdC_set2, hst.out]
          have : Value.int .u8 (16 * (q1 : Int) + (q2 : Int)) = bv (UInt8.ofNat (16 * (q1 : Int).toNat + (q2 : Int).toNat)) := by
            unfold bv
            congr 1
            rw [UInt8.toNat_ofNat', Int.toNat_natCast, Int.toNat_natCast]
            omega
          rw [← this]
          exact hB'.set_ _ _
        case measure => simp [intOf]; omega
    · have : k = 32 := by omega
      subst this
      have hok : readOf s.data.toList = (rdL s.data.toList 64, 0) := by
        unfold readOf okHex
        have : (s.data.toList.all fun c => decide (0 ≤ dg c)) = true := by
          rw [List.all_eq_true]
          intro c hc
          obtain ⟨j, hj, rfl⟩ := List.mem_iff_getElem.1 hc
          have := hgood j (by omega)
          rw [List.getD_eq_getElem?_getD, List.getElem?_eq_getElem hj] at this
          simpa using this
        rw [this, hl]
        rfl
      have HOK := hid hok
      have hB : Blk wr (w.heap.size + 1) 23 (rdC s.data.toList 64) := hB
      have hcz : (rdC s.data.toList 64).size = 32 := rdC_size _ _
      have hone : ∀ v ∈ rdC s.data.toList 64, v.oneCell' = true := oneBv _
      generalize hC : rdC s.data.toList 64 = C at *
      have HC := hid hC
      have HCZ := hid hcz
      clear hC hcz hok hgood
      have hzC := dig_size C HCZ.out
      go_wp2_with (first
        | (refine wpList_ldr rfl 23 _ rfl (w.heap.size + 1) rfl _ C _ hB Try.underlying23 rfl hzC ?_)
        | (refine wpList_str rfl 23 _ _ rfl w.heap.size C rfl rfl _ zero32 hA (by rw [HCZ.out]; rfl) hz hone ?_; intro w3 hB3 hg3 hz3))
      rw [HOK.out]
      exact give_di (p := 2) (t := 3) rfl hB3 (by rw [← HC.out]; rfl) (rdL_len _ _) rfl rfl rfl (hb.grown hg3 hb.size (by simp))
end Go.Proofs.Ytpmmgknehmkjlaa
