/-
  The law RowsTell walked, at any rows and place.
-/
import Derived.Test.YtheljogmnalbmaaDoorRowR
import Derived.Test.YtheljogmnalbmaaDoorRowS
import Derived.Test.YtheljogmnalbmaaDoorRowV
import Derived.Test.YtheljogmnalbmaaDoorRowW
import Derived.Test.YtheljogmnalbmaaDoorRowX
namespace Go.Proofs.YtheljogmnalbmaaDoor
open Go.RowKit
set_option linter.unusedSimpArgs false
set_option linter.unusedVariables false

theorem great260 (P : Option Addr) (np pc : Nat) (pss : List (List UInt8)) (w : World) (hP : Parts w P np pss) (b : Bool) (hb : greatB 260 pss = b) :
    Calls Tryd.prog 11 #[.slice P np pc, .int .i64 260] w fun e w' => e = .returned (.bool b) ∧ w' = w := great_any P np pc 260 (by omega) pss w hP b hb
theorem sidesE_len (pss : List (List UInt8)) (i : Int) : (sidesE pss i).1.length ≤ 8 := by
  unfold sidesE
  split
  · exact Nat.zero_le _
  · rename_i h
    split
    · exact Nat.zero_le _
    · have hb : listB pss = true := by simpa using h
      have := (listB_parts hb).1
      exact sides_len8 this (by omega)
theorem rootR_v (P : Option Addr) (np pc : Nat) (pss : List (List UInt8)) (w : World) (hP : Parts w P np pss) (hpc : np ≤ pc) : Calls Tryd.prog 15 #[.slice P np pc] w (GivesVE2 w ((rootE pss).1.map bv) (rootE pss).2) := rootR_any P np pc pss w hP hpc

set_option maxRecDepth 100000 in
set_option maxHeartbeats 4000000 in
theorem tell_great (P : Option Addr) (np pc : Nat) (i : Int) (l : List (List UInt8)) (w : World) (hP : Parts w P np l) (h : greatB 30 l = true) (h2 : np < 256 ∨ greatB 260 l = true) :
    Calls Tryd.prog 5 #[.slice P np pc, .int .i64 i] w fun e w' => e = .returned (.bool true) ∧ Below w.heap.size w w' := by
  have HP := hid hP
  have hG1 := hid (fun W (h : Parts W P np l) => great30 P np pc l W h _ rfl)
  have hG2 := hid (fun W (h : Parts W P np l) => great260 P np pc l W h _ rfl)
  rw [h] at hG1
  by_cases hn : (np : Int) < 256
  · clear hP h h2 hG2
    go_enter Tryd.func5, Tryd.ntmps5
    go_wp2_with (first
      | ((with_reducible refine (hG1.out _ HP.out).mono ?_); rintro e w2 ⟨rfl, hv⟩; subst hv))
    go_ret
    exact ⟨rfl, Below.refl _ _⟩
  · have h3 : greatB 260 l = true := h2.resolve_left (by omega)
    rw [h3] at hG2
    clear hP h h2 h3
    go_enter Tryd.func5, Tryd.ntmps5
    go_wp2_with (first
      | ((with_reducible refine (hG1.out _ HP.out).mono ?_); rintro e w2 ⟨rfl, hv⟩; subst hv)
      | ((with_reducible refine (hG2.out _ HP.out).mono ?_); rintro e w3 ⟨rfl, hv⟩; subst hv))
    go_ret
    exact ⟨rfl, Below.refl _ _⟩

set_option maxRecDepth 100000 in
set_option maxHeartbeats 8000000 in
theorem tell_few (P : Option Addr) (np pc : Nat) (i : Int) (l : List (List UInt8)) (w : World) (hP : Parts w P np l) (hpc : np ≤ pc) (hK : KOk w) (h : greatB 30 l = false) :
    Calls Tryd.prog 5 #[.slice P np pc, .int .i64 i] w fun e w' => e = .returned (.bool true) ∧ Below w.heap.size w w' := by
  have HP := hid hP
  have HK := hid hK
  have hG1 := hid (fun W (h : Parts W P np l) => great30 P np pc l W h _ rfl)
  have hG2 := hid (fun W (h : Parts W P np l) => great260 P np pc l W h _ rfl)
  rw [h] at hG1
  have gb := greatB_parts h
  have hle : np ≤ 260 := by have := gb.1; rw [hP.1] at this; omega
  clear h
  have hTw := hid (fun W (h : Parts W P np l) => twin_rows P np pc l W h (by omega) (fun p hp => (gb.2 p hp).1))
  have hRO := hid (fun W D c (h : Parts W D np l) (h2 : np ≤ c) (k : KOk W) => root_v2 D np c l W h h2 k)
  have hRR := hid (fun W (h : Parts W P np l) => rootR_v P np pc l W h hpc)
  have hSO := hid (fun W D c (h : Parts W D np l) (h2 : np ≤ c) (k : KOk W) => sidesE_any D np c i l W h h2 k)
  have hSR := hid (fun W (h : Parts W P np l) => sidesR_any P np pc i l W h hpc)
  have hSL := hid (fun W D c (h : Parts W D np l) (h2 : Parts W P np l) => sameL_eq D P np c pc l W h h2 (by omega))
  have hln := sidesE_len l i
  have n1 := rootE_len l
  unfold GivesTw at hTw
  unfold GivesVE2 at hRO hRR
  unfold GivesDsE at hSO hSR
  unfold GivesBo at hSL
  generalize rootE l = E1 at *
  generalize sidesE l i = E2 at *
  obtain ⟨d1, e1⟩ := E1
  obtain ⟨L2, e2⟩ := E2
  dsimp only at *
  have hSD := hid (fun W A B c d (h1 : Digs W A L2.length L2) (h2 : Digs W B L2.length L2) => (show Calls Tryd.prog 18 #[.slice A L2.length c, .slice B L2.length d] W (GivesBo W true) by
    have := sameD_any A B L2.length c L2.length d L2 L2 W h1 h2 (by omega)
    rwa [decide_eq_true (rfl : L2 = L2)] at this))
  unfold GivesBo at hSD
  have hE := run_eq_dig _ _ n1 n1
  rw [decide_eq_true (rfl : d1 = d1)] at hE
  have z1 := digZ _ n1
  have o1 := hid (oneBv' d1)
  have hL1 : (Tryd.prog.info? 23).map (·.size) = some (d1.map bv).toArray.size := digS _ n1
  generalize d1.map bv = L1 at *
  obtain ⟨m, hm⟩ : ∃ m, L2.length = m := ⟨_, rfl⟩
  rw [hm] at hSO hSR hSD
  clear hP hK gb hm hln n1
  go_enter Tryd.func5, Tryd.ntmps5
  go_upto_region 4 with (first
    | ((with_reducible refine (hG1.out _ HP.out).mono ?_); rintro e v2 ⟨rfl, hv⟩; subst hv)
    | ((with_reducible refine (hG2.out _ HP.out).mono ?_); rintro e v3 ⟨rfl, hv⟩; subst hv)
    | ((with_reducible refine (hTw.out _ HP.out).mono ?_); rintro e w1 ⟨D, cD, rfl, hPD, hcD, hb1⟩; have HD := hid hPD; have Y1 := hid hb1; clear hPD hb1; have P1 := hid (HP.out.below Y1.out); have K1 := hid (HK.out.below Y1.out)))
  go_upto_region 5 with (first
    | ((with_reducible refine (hRO.out w1 _ _ HD.out hcD K1.out).mono ?_); rintro e w2 ⟨rfl, hb2⟩)
    | ((with_reducible refine at_alloc (d := some 6) 23 ?_); refine wpList_al rfl 23 rfl zeroD (zeroD_run _) ?_; intro w3 hB3 hb3 hy; clear hy)
    | ((with_reducible refine at_store 23 ?_); refine wpList_str rfl 23 _ _ rfl w2.heap.size L1.toArray rfl rfl _ zeroD hB3 z1 zeroD_size o1.out ?_; intro w4 hB4 hg4 hy; clear hy))
  have q24 : Below w2.heap.size w2 w4 := hb3.grown hg4 hb3.size (by intro k e; cases e; exact Nat.le_refl _)
  have q14 := below_chain hb2 q24
  have HD4 := hid (HD.out.below q14)
  have P4 := hid (P1.out.below q14)
  have K4 := hid (K1.out.below q14)
  have Y4 := hid (below_chain Y1.out q14)
  have X6 := hid hB4
  clear hB3 hb3 hg4 hB4 hb2 q24 q14
  go_upto_region 6 with (first
    | ((with_reducible refine (hRR.out w4 P4.out).mono ?_); rintro e w5 ⟨rfl, hb5⟩)
    | ((with_reducible refine at_alloc (d := some 8) 23 ?_); refine wpList_al rfl 23 rfl zeroD (zeroD_run _) ?_; intro w6 hB6 hb6 hy; clear hy)
    | ((with_reducible refine at_store 23 ?_); refine wpList_str rfl 23 _ _ rfl w5.heap.size L1.toArray rfl rfl _ zeroD hB6 z1 zeroD_size o1.out ?_; intro w7 hB7 hg7 hy; clear hy))
  have q57 : Below w5.heap.size w5 w7 := hb6.grown hg7 hb6.size (by intro k e; cases e; exact Nat.le_refl _)
  have q47 := below_chain hb5 q57
  have HD7 := hid (HD4.out.below q47)
  have P7 := hid (P4.out.below q47)
  have K7 := hid (K4.out.below q47)
  have Y7 := hid (below_chain Y4.out q47)
  have X6 := hid (X6.out.belowS q47)
  have X8 := hid hB7
  clear hB6 hb6 hg7 hB7 hb5 q57 q47
  go_upto_region 8 with (first
    | ((with_reducible refine (hSO.out w7 _ _ HD7.out hcD K7.out).mono ?_); rintro e w8 ⟨D8, c8, rfl, hd8, _, hb8⟩; have DS8 := hid hd8; clear hd8; have P8 := hid (P7.out.below hb8))
    | ((with_reducible refine (hSR.out w8 P8.out).mono ?_); rintro e w9 ⟨D9, c9, rfl, hd9, _, hb9⟩; have DS9 := hid hd9; clear hd9; have DT9 := hid (DS8.out.below hb9); have q79 := below_chain hb8 hb9; have HD9 := hid (HD7.out.below q79); have P9 := hid (P7.out.below q79); have Y9 := hid (below_chain Y7.out q79); have X6 := hid (X6.out.belowS q79); have X8 := hid (X8.out.belowS q79)))
  go_wp2_with (first
    | ((with_reducible refine at_load (d := some 49) 23 ?_); refine wpList_ldr_g (by kernel_rfl) 23 _ rfl w2.heap.size rfl _ L1.toArray _ X6.out Tryd.underlying23 rfl hL1 ?_)
    | ((with_reducible refine at_load (d := some 50) 23 ?_); refine wpList_ldr_g (by kernel_rfl) 23 _ rfl w5.heap.size rfl _ L1.toArray _ X8.out Tryd.underlying23 rfl hL1 ?_)
    | ((with_reducible refine (hSD.out w9 _ _ _ _ DT9.out DS9.out).mono ?_); rintro e wa ⟨rfl, hba⟩; have HDa := hid (HD9.out.below hba); have Pa := hid (P9.out.below hba); have Ya := hid (below_chain Y9.out hba))
    | ((with_reducible refine (hSL.out wa _ _ HDa.out Pa.out).mono ?_); rintro e wb ⟨rfl, hbb⟩; have Yb := hid (below_chain Ya.out hbb)))
  go_ret
  exact ⟨by simp, Yb.out⟩

set_option maxRecDepth 100000 in
set_option maxHeartbeats 8000000 in
theorem tell_many (P : Option Addr) (np pc : Nat) (i : Int) (l : List (List UInt8)) (w : World) (hP : Parts w P np l) (hpc : np ≤ pc) (hK : KOk w) (h : greatB 30 l = true) (hn : ¬ (np : Int) < 256) (h2 : greatB 260 l = false) :
    Calls Tryd.prog 5 #[.slice P np pc, .int .i64 i] w fun e w' => e = .returned (.bool true) ∧ Below w.heap.size w w' := by
  have HP := hid hP
  have HK := hid hK
  have hG1 := hid (fun W (h : Parts W P np l) => great30 P np pc l W h _ rfl)
  have hG2 := hid (fun W (h : Parts W P np l) => great260 P np pc l W h _ rfl)
  rw [h] at hG1
  rw [h2] at hG2
  have gb := greatB_parts h2
  have hle : np ≤ 260 := by have := gb.1; rw [hP.1] at this; omega
  clear h h2
  have hTw := hid (fun W (h : Parts W P np l) => twin_rows P np pc l W h (by omega) (fun p hp => (gb.2 p hp).1))
  have hRO := hid (fun W D c (h : Parts W D np l) (h2 : np ≤ c) (k : KOk W) => root_v2 D np c l W h h2 k)
  have hRR := hid (fun W (h : Parts W P np l) => rootR_v P np pc l W h hpc)
  have hSO := hid (fun W D c (h : Parts W D np l) (h2 : np ≤ c) (k : KOk W) => sidesE_any D np c i l W h h2 k)
  have hSR := hid (fun W (h : Parts W P np l) => sidesR_any P np pc i l W h hpc)
  have hSL := hid (fun W D c (h : Parts W D np l) (h2 : Parts W P np l) => sameL_eq D P np c pc l W h h2 (by omega))
  have hln := sidesE_len l i
  have n1 := rootE_len l
  unfold GivesTw at hTw
  unfold GivesVE2 at hRO hRR
  unfold GivesDsE at hSO hSR
  unfold GivesBo at hSL
  generalize rootE l = E1 at *
  generalize sidesE l i = E2 at *
  obtain ⟨d1, e1⟩ := E1
  obtain ⟨L2, e2⟩ := E2
  dsimp only at *
  have hSD := hid (fun W A B c d (h1 : Digs W A L2.length L2) (h2 : Digs W B L2.length L2) => (show Calls Tryd.prog 18 #[.slice A L2.length c, .slice B L2.length d] W (GivesBo W true) by
    have := sameD_any A B L2.length c L2.length d L2 L2 W h1 h2 (by omega)
    rwa [decide_eq_true (rfl : L2 = L2)] at this))
  unfold GivesBo at hSD
  have hE := run_eq_dig _ _ n1 n1
  rw [decide_eq_true (rfl : d1 = d1)] at hE
  have z1 := digZ _ n1
  have o1 := hid (oneBv' d1)
  have hL1 : (Tryd.prog.info? 23).map (·.size) = some (d1.map bv).toArray.size := digS _ n1
  generalize d1.map bv = L1 at *
  obtain ⟨m, hm⟩ : ∃ m, L2.length = m := ⟨_, rfl⟩
  rw [hm] at hSO hSR hSD
  clear hP hK gb hm hln n1
  go_enter Tryd.func5, Tryd.ntmps5
  go_upto_region 4 with (first
    | ((with_reducible refine (hG1.out _ HP.out).mono ?_); rintro e v2 ⟨rfl, hv⟩; subst hv)
    | ((with_reducible refine (hG2.out _ HP.out).mono ?_); rintro e v3 ⟨rfl, hv⟩; subst hv)
    | ((with_reducible refine (hTw.out _ HP.out).mono ?_); rintro e w1 ⟨D, cD, rfl, hPD, hcD, hb1⟩; have HD := hid hPD; have Y1 := hid hb1; clear hPD hb1; have P1 := hid (HP.out.below Y1.out); have K1 := hid (HK.out.below Y1.out)))
  go_upto_region 5 with (first
    | ((with_reducible refine (hRO.out w1 _ _ HD.out hcD K1.out).mono ?_); rintro e w2 ⟨rfl, hb2⟩)
    | ((with_reducible refine at_alloc (d := some 6) 23 ?_); refine wpList_al rfl 23 rfl zeroD (zeroD_run _) ?_; intro w3 hB3 hb3 hy; clear hy)
    | ((with_reducible refine at_store 23 ?_); refine wpList_str rfl 23 _ _ rfl w2.heap.size L1.toArray rfl rfl _ zeroD hB3 z1 zeroD_size o1.out ?_; intro w4 hB4 hg4 hy; clear hy))
  have q24 : Below w2.heap.size w2 w4 := hb3.grown hg4 hb3.size (by intro k e; cases e; exact Nat.le_refl _)
  have q14 := below_chain hb2 q24
  have HD4 := hid (HD.out.below q14)
  have P4 := hid (P1.out.below q14)
  have K4 := hid (K1.out.below q14)
  have Y4 := hid (below_chain Y1.out q14)
  have X6 := hid hB4
  clear hB3 hb3 hg4 hB4 hb2 q24 q14
  go_upto_region 6 with (first
    | ((with_reducible refine (hRR.out w4 P4.out).mono ?_); rintro e w5 ⟨rfl, hb5⟩)
    | ((with_reducible refine at_alloc (d := some 8) 23 ?_); refine wpList_al rfl 23 rfl zeroD (zeroD_run _) ?_; intro w6 hB6 hb6 hy; clear hy)
    | ((with_reducible refine at_store 23 ?_); refine wpList_str rfl 23 _ _ rfl w5.heap.size L1.toArray rfl rfl _ zeroD hB6 z1 zeroD_size o1.out ?_; intro w7 hB7 hg7 hy; clear hy))
  have q57 : Below w5.heap.size w5 w7 := hb6.grown hg7 hb6.size (by intro k e; cases e; exact Nat.le_refl _)
  have q47 := below_chain hb5 q57
  have HD7 := hid (HD4.out.below q47)
  have P7 := hid (P4.out.below q47)
  have K7 := hid (K4.out.below q47)
  have Y7 := hid (below_chain Y4.out q47)
  have X6 := hid (X6.out.belowS q47)
  have X8 := hid hB7
  clear hB6 hb6 hg7 hB7 hb5 q57 q47
  go_upto_region 8 with (first
    | ((with_reducible refine (hSO.out w7 _ _ HD7.out hcD K7.out).mono ?_); rintro e w8 ⟨D8, c8, rfl, hd8, _, hb8⟩; have DS8 := hid hd8; clear hd8; have P8 := hid (P7.out.below hb8))
    | ((with_reducible refine (hSR.out w8 P8.out).mono ?_); rintro e w9 ⟨D9, c9, rfl, hd9, _, hb9⟩; have DS9 := hid hd9; clear hd9; have DT9 := hid (DS8.out.below hb9); have q79 := below_chain hb8 hb9; have HD9 := hid (HD7.out.below q79); have P9 := hid (P7.out.below q79); have Y9 := hid (below_chain Y7.out q79); have X6 := hid (X6.out.belowS q79); have X8 := hid (X8.out.belowS q79)))
  go_wp2_with (first
    | ((with_reducible refine at_load (d := some 49) 23 ?_); refine wpList_ldr_g (by kernel_rfl) 23 _ rfl w2.heap.size rfl _ L1.toArray _ X6.out Tryd.underlying23 rfl hL1 ?_)
    | ((with_reducible refine at_load (d := some 50) 23 ?_); refine wpList_ldr_g (by kernel_rfl) 23 _ rfl w5.heap.size rfl _ L1.toArray _ X8.out Tryd.underlying23 rfl hL1 ?_)
    | ((with_reducible refine (hSD.out w9 _ _ _ _ DT9.out DS9.out).mono ?_); rintro e wa ⟨rfl, hba⟩; have HDa := hid (HD9.out.below hba); have Pa := hid (P9.out.below hba); have Ya := hid (below_chain Y9.out hba))
    | ((with_reducible refine (hSL.out wa _ _ HDa.out Pa.out).mono ?_); rintro e wb ⟨rfl, hbb⟩; have Yb := hid (below_chain Ya.out hbb)))
  go_ret
  exact ⟨by simp, Yb.out⟩

theorem tell_any (P : Option Addr) (np pc : Nat) (i : Int) (l : List (List UInt8)) (w : World) (hP : Parts w P np l) (hpc : np ≤ pc) (hK : KOk w) :
    Calls Tryd.prog 5 #[.slice P np pc, .int .i64 i] w fun e w' => e = .returned (.bool true) ∧ Below w.heap.size w w' := by
  by_cases h : greatB 30 l = true
  · by_cases h2 : np < 256 ∨ greatB 260 l = true
    · exact tell_great P np pc i l w hP h h2
    · exact tell_many P np pc i l w hP hpc hK h (by omega) (by
        have : ¬ greatB 260 l = true := fun e => h2 (.inr e)
        simpa using this)
  · exact tell_few P np pc i l w hP hpc hK (by simpa using h)
namespace rowsTell
theorem rowsTell_law {W : World} (a0 : Option Addr) (n0 c0 : Nat) (l0 : List (List UInt8)) (w0 : Parts W a0 n0 l0 ∧ n0 ≤ c0) (a1 : Int) (w1 : (Lit.int .i64 a1).wf = true) (hK : KOk W) :
    Calls Tryd.prog 5 #[.slice a0 n0 c0, .int .i64 a1] W fun e w' => e = .returned (.bool true) ∧ Below W.heap.size W w' :=
  tell_any a0 n0 c0 a1 l0 W w0.1 w0.2 hK
end rowsTell
end Go.Proofs.YtheljogmnalbmaaDoor
