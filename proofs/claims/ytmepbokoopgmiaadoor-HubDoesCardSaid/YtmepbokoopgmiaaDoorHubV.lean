/-
  Contract of the reference's Taken. No condition beyond those each theorem names.
-/
import Derived.Test.YtmepbokoopgmiaaDoorHubU
import Derived.Test.YtmepbokoopgmiaaDoorRegA
import Derived.Test.YtmepbokoopgmiaaDoorHubM
namespace Go.Proofs.YtmepbokoopgmiaaDoor
open Go.RowKit
set_option linter.unusedSimpArgs false
set_option linter.unusedVariables false

/-- What Taken gives. -/
def takenT (xs : List It) (lost : Bool) : List It × Bool × It × Bool := match xs with
  | x :: l => (l, lost, x, true)
  | [] => if lost then ([], false, gapIt, true) else ([], false, zeroIt, false)
def GivesK (w : World) (r : List It × Bool × It × Bool) (e : Ending) (w' : World) : Prop := ∃ D m c, e = .returned (.tuple #[.agg #[.slice D m c, .bool r.2.1], .agg (itL r.2.2.1).toArray, .bool r.2.2.2]) ∧ Fr w' w.heap.size 101 D m (itsL r.1) ∧ Below w.heap.size w w'

set_option maxRecDepth 100000 in
set_option maxHeartbeats 4000000 in
theorem taken_gap (A : Option Addr) (n c : Nat) (lost : Bool) (xs : List It) (ho : ItsOk xs) (w : World) (hr : Rd w 0 101 A n (itsL xs)) (hn : n ≤ 1000) (h0 : xs = []) (h1 : lost = true) :
    Calls Tryd.prog 40 #[.agg #[.slice A n c, .bool lost]] w (GivesK w ([], false, gapIt, true)) := by
  have hTw := hid (fun W (h : Rd W 0 101 A n (itsL xs)) => twin23_any A n c lost xs ho W h hn)
  have HR := hid hr
  have hl := hid (rd_len ho hr)
  have hzr : Hid (∀ W, (zeroValue 36).run Tryd.prog W = .ok (.agg (itL zeroIt).toArray) W) := hid zeroI_run
  have hzb : Hid (∀ W, (Instr.build 36 #[]).run Tryd.prog W = .ok (.agg (itL zeroIt).toArray) W) := hid zeroI_build
  have hsaZ := it_sizeA zeroIt zeroIt_ok
  have honeZ := hid (it_one zeroIt)
  have honeG := hid (it_one gapIt)
  have hGZ := item_sz gapIt_ok
  have hgb := hid gap_builtU
  clear hr
  subst h1; subst h0
  generalize hGL : (itL gapIt).toArray = GA at *
  have HGL := hid hGL
  clear hGL
  generalize hZL : (itL zeroIt).toArray = Z at *
  have HZL := hid hZL
  clear hZL
  go_enter Tryd.func40, Tryd.ntmps40
  go_upto_region 2 with (first
    | (refine wpList_bx rfl 47 _ rfl #[.slice A n c, .bool _] rfl ?_; intro w1 hB1 hb1 hy; have hy1 := hid hy; clear hy)
    | ((with_reducible refine at_alloc (d := some 2) 47 ?_); refine wpList_al rfl 47 rfl _ (tap_zero _) ?_; intro w2 hB2 hb2 hy; have hy2 := hid hy; clear hy)
    | ((with_reducible refine at_alloc (d := some 3) 36 ?_); refine wpList_al rfl 36 rfl _ (hzr.out _) ?_; intro w3 hB3 hb3 hy; have hy3 := hid hy; clear hy; have X0 := hid (below_chain (below_chain hb1 hb2) hb3); obtain ⟨a0, a1, a2, a3⟩ := two_facts ((hB1.belowS hb2).belowS hb3))
    | ((with_reducible refine (hTw.out _ (HR.out.below X0.out)).mono ?_); rintro e w4 ⟨D, d, rfl, hO, hb4⟩)
    | ((with_reducible refine at_alloc (d := some 5) 47 ?_); refine wpList_al rfl 47 rfl _ (tap_zero _) ?_; intro w5 hB5 hb5 hy; clear hy)
    | ((with_reducible refine at_store 47 ?_); refine wpList_str rfl 47 _ _ rfl w4.heap.size _ rfl rfl _ _ hB5 rfl (tap_size _ _) (one_tap _ _ _ _) ?_; intro w6 hB6 hg6 hy; clear hy))
  have hq6 : Below w4.heap.size w4 w6 := hb5.grown hg6 hb5.size (by intro k e; cases e; exact Nat.le_refl _)
  have hq := below_chain hb4 hq6
  have X1 := hid (((hB1.belowS hb2).belowS hb3).belowS hq)
  have X2 := hid ((hB2.belowS hb3).belowS hq)
  have X3 := hid (hB3.belowS hq)
  have X5 := hid hB6
  have X0 := hid (below_chain X0.out hq)
  have l1 : w.heap.size < w1.heap.size := by have := hy1.out; omega
  have l2 : w1.heap.size < w2.heap.size := by have := hy2.out; omega
  have l3 : w2.heap.size < w3.heap.size := by have := hy3.out; omega
  have l4 : w3.heap.size ≤ w4.heap.size := hb4.size
  have l5 := hid hB6.lt
  have HO := hid (hO.below hq6)
  have hrl := hid (fun g (e : rowOf D d = some g) => (⟨(hO.row_lt g e).1, (hO.row_lt g e).2⟩ : w3.heap.size ≤ g ∧ g < w4.heap.size))
  clear hB1 hb1 hB2 hb2 hB3 hb3 hO hb4 hB5 hb5 hB6 hg6 hq6 hq a0 a1 a2 a3 hy1 hy2 hy3
  generalize w1.heap.size = g2 at *
  generalize w2.heap.size = g3 at *
  generalize w3.heap.size = lo at *
  generalize w4.heap.size = g5 at *
  obtain ⟨a0, a1, a2, a3⟩ := two_facts X1.out
  obtain ⟨b0, b1, b2, b3⟩ := two_facts X5.out
  obtain ⟨c0, c1, c2, c3⟩ := two_facts X2.out
  have hn0 : n = 0 := hl.out.symm
  subst hn0
  go_wp2_with (first
    | ((with_reducible refine at_build 47 ?_); refine wpList_bd rfl 47 rfl _ (tap_none _) ?_)
    | ((with_reducible refine at_build 36 ?_); refine wpList_b1 rfl 36 0 _ rfl (.bool true) rfl _ (hgb.out _) ?_)
    | ((with_reducible refine at_store 47 ?_); refine wpList_str rfl 47 _ _ rfl g2 _ rfl rfl _ _ X2.out rfl (tap_size _ _) (one_tap _ _ _ _) ?_; intro w8 hB8 hg8 hy; clear hy)
    | ((with_reducible refine at_store 36 ?_); refine wpList_str rfl 36 _ _ rfl g3 GA rfl rfl _ _ (X3.out.grown hg8 (fun e => by have := Option.some.inj e; omega)) hGZ hsaZ honeG.out ?_; intro w9 hB9 hg9 hy; clear hy))
  have hB9' := hB8.grown hg9 (fun e => by have := Option.some.inj e; omega)
  have hbf := below_set (below_set X0.out hg8 (by omega)) hg9 (by omega)
  have hres := results_ccs (P := Tryd.prog) (fn := Tryd.f40) (p := 2) (q := 3) (t := 4) rfl
  refine bodyPost_ret (hres _ _ g2 g3 _ _ _ _ rfl rfl hB9' hB9 Tryd.underlying47 Tryd.underlying36 rfl rfl (tap_size _ _) (hsaZ.trans (congrArg some hGZ.symm))) rfl ?_
  exact ⟨none, 0, 0, by rw [HGL.out]; rfl, Fr.nil _ _ _ _, hbf⟩

set_option maxRecDepth 100000 in
set_option maxHeartbeats 4000000 in
theorem taken_none (A : Option Addr) (n c : Nat) (lost : Bool) (xs : List It) (ho : ItsOk xs) (w : World) (hr : Rd w 0 101 A n (itsL xs)) (hn : n ≤ 1000) (h0 : xs = []) (h1 : lost = false) :
    Calls Tryd.prog 40 #[.agg #[.slice A n c, .bool lost]] w (GivesK w ([], false, zeroIt, false)) := by
  have hTw := hid (fun W (h : Rd W 0 101 A n (itsL xs)) => twin23_any A n c lost xs ho W h hn)
  have HR := hid hr
  have hl := hid (rd_len ho hr)
  have hzr : Hid (∀ W, (zeroValue 36).run Tryd.prog W = .ok (.agg (itL zeroIt).toArray) W) := hid zeroI_run
  have hzb : Hid (∀ W, (Instr.build 36 #[]).run Tryd.prog W = .ok (.agg (itL zeroIt).toArray) W) := hid zeroI_build
  have hsaZ := it_sizeA zeroIt zeroIt_ok
  have honeZ := hid (it_one zeroIt)
  have honeG := hid (it_one gapIt)
  have hGZ := item_sz gapIt_ok
  have hgb := hid gap_builtU
  clear hr
  subst h1; subst h0
  generalize hGL : (itL gapIt).toArray = GA at *
  have HGL := hid hGL
  clear hGL
  generalize hZL : (itL zeroIt).toArray = Z at *
  have HZL := hid hZL
  clear hZL
  go_enter Tryd.func40, Tryd.ntmps40
  go_upto_region 2 with (first
    | (refine wpList_bx rfl 47 _ rfl #[.slice A n c, .bool _] rfl ?_; intro w1 hB1 hb1 hy; have hy1 := hid hy; clear hy)
    | ((with_reducible refine at_alloc (d := some 2) 47 ?_); refine wpList_al rfl 47 rfl _ (tap_zero _) ?_; intro w2 hB2 hb2 hy; have hy2 := hid hy; clear hy)
    | ((with_reducible refine at_alloc (d := some 3) 36 ?_); refine wpList_al rfl 36 rfl _ (hzr.out _) ?_; intro w3 hB3 hb3 hy; have hy3 := hid hy; clear hy; have X0 := hid (below_chain (below_chain hb1 hb2) hb3); obtain ⟨a0, a1, a2, a3⟩ := two_facts ((hB1.belowS hb2).belowS hb3))
    | ((with_reducible refine (hTw.out _ (HR.out.below X0.out)).mono ?_); rintro e w4 ⟨D, d, rfl, hO, hb4⟩)
    | ((with_reducible refine at_alloc (d := some 5) 47 ?_); refine wpList_al rfl 47 rfl _ (tap_zero _) ?_; intro w5 hB5 hb5 hy; clear hy)
    | ((with_reducible refine at_store 47 ?_); refine wpList_str rfl 47 _ _ rfl w4.heap.size _ rfl rfl _ _ hB5 rfl (tap_size _ _) (one_tap _ _ _ _) ?_; intro w6 hB6 hg6 hy; clear hy))
  have hq6 : Below w4.heap.size w4 w6 := hb5.grown hg6 hb5.size (by intro k e; cases e; exact Nat.le_refl _)
  have hq := below_chain hb4 hq6
  have X1 := hid (((hB1.belowS hb2).belowS hb3).belowS hq)
  have X2 := hid ((hB2.belowS hb3).belowS hq)
  have X3 := hid (hB3.belowS hq)
  have X5 := hid hB6
  have X0 := hid (below_chain X0.out hq)
  have l1 : w.heap.size < w1.heap.size := by have := hy1.out; omega
  have l2 : w1.heap.size < w2.heap.size := by have := hy2.out; omega
  have l3 : w2.heap.size < w3.heap.size := by have := hy3.out; omega
  have l4 : w3.heap.size ≤ w4.heap.size := hb4.size
  have l5 := hid hB6.lt
  have HO := hid (hO.below hq6)
  have hrl := hid (fun g (e : rowOf D d = some g) => (⟨(hO.row_lt g e).1, (hO.row_lt g e).2⟩ : w3.heap.size ≤ g ∧ g < w4.heap.size))
  clear hB1 hb1 hB2 hb2 hB3 hb3 hO hb4 hB5 hb5 hB6 hg6 hq6 hq a0 a1 a2 a3 hy1 hy2 hy3
  generalize w1.heap.size = g2 at *
  generalize w2.heap.size = g3 at *
  generalize w3.heap.size = lo at *
  generalize w4.heap.size = g5 at *
  obtain ⟨a0, a1, a2, a3⟩ := two_facts X1.out
  obtain ⟨b0, b1, b2, b3⟩ := two_facts X5.out
  obtain ⟨c0, c1, c2, c3⟩ := two_facts X2.out
  have hn0 : n = 0 := hl.out.symm
  subst hn0
  go_wp2_with (first
    | ((with_reducible refine at_build 47 ?_); refine wpList_bd rfl 47 rfl _ (tap_none _) ?_)
    | ((with_reducible refine at_build 36 ?_); refine wpList_bd rfl 36 rfl _ (hzb.out _) ?_)
    | ((with_reducible refine at_store 47 ?_); refine wpList_str rfl 47 _ _ rfl g2 _ rfl rfl _ _ X2.out rfl (tap_size _ _) (one_tap _ _ _ _) ?_; intro w8 hB8 hg8 hy; clear hy)
    | ((with_reducible refine at_store 36 ?_); refine wpList_str rfl 36 _ _ rfl g3 Z rfl rfl _ _ (X3.out.grown hg8 (fun e => by have := Option.some.inj e; omega)) rfl hsaZ honeZ.out ?_; intro w9 hB9 hg9 hy; clear hy))
  have hB9' := hB8.grown hg9 (fun e => by have := Option.some.inj e; omega)
  have hbf := below_set (below_set X0.out hg8 (by omega)) hg9 (by omega)
  have hres := results_ccs (P := Tryd.prog) (fn := Tryd.f40) (p := 2) (q := 3) (t := 4) rfl
  refine bodyPost_ret (hres _ _ g2 g3 _ _ _ _ rfl rfl hB9' hB9 Tryd.underlying47 Tryd.underlying36 rfl rfl (tap_size _ _) hsaZ) rfl ?_
  exact ⟨none, 0, 0, by rw [HZL.out]; rfl, Fr.nil _ _ _ _, hbf⟩

set_option maxRecDepth 100000 in
set_option maxHeartbeats 4000000 in
theorem taken_cons (A : Option Addr) (n c : Nat) (lost : Bool) (xs : List It) (ho : ItsOk xs) (w : World) (hr : Rd w 0 101 A n (itsL xs)) (hn : n ≤ 1000) (x : It) (l : List It) (h0 : xs = x :: l) :
    Calls Tryd.prog 40 #[.agg #[.slice A n c, .bool lost]] w (GivesK w (l, lost, x, true)) := by
  have hTw := hid (fun W (h : Rd W 0 101 A n (itsL xs)) => twin23_any A n c lost xs ho W h hn)
  have HR := hid hr
  have hl := hid (rd_len ho hr)
  have hzr : Hid (∀ W, (zeroValue 36).run Tryd.prog W = .ok (.agg (itL zeroIt).toArray) W) := hid zeroI_run
  have hzb : Hid (∀ W, (Instr.build 36 #[]).run Tryd.prog W = .ok (.agg (itL zeroIt).toArray) W) := hid zeroI_build
  have hsaZ := it_sizeA zeroIt zeroIt_ok
  have honeZ := hid (it_one zeroIt)
  have honeG := hid (it_one gapIt)
  have hGZ := item_sz gapIt_ok
  have hgb := hid gap_builtU
  have ox : ItOk x := ho x (by rw [h0]; simp)
  have hszX := it_size x ox
  have hsaX := it_sizeA x ox
  have hXZ := item_sz ox
  have honeX := hid (it_one x)
  have hu36 := Tryd.underlying36
  have HO2 := hid ho
  clear hr
  subst h0
  generalize hGL : (itL gapIt).toArray = GA at *
  have HGL := hid hGL
  clear hGL
  generalize hZL : (itL zeroIt).toArray = Z at *
  have HZL := hid hZL
  clear hZL
  go_enter Tryd.func40, Tryd.ntmps40
  go_upto_region 2 with (first
    | (refine wpList_bx rfl 47 _ rfl #[.slice A n c, .bool _] rfl ?_; intro w1 hB1 hb1 hy; have hy1 := hid hy; clear hy)
    | ((with_reducible refine at_alloc (d := some 2) 47 ?_); refine wpList_al rfl 47 rfl _ (tap_zero _) ?_; intro w2 hB2 hb2 hy; have hy2 := hid hy; clear hy)
    | ((with_reducible refine at_alloc (d := some 3) 36 ?_); refine wpList_al rfl 36 rfl _ (hzr.out _) ?_; intro w3 hB3 hb3 hy; have hy3 := hid hy; clear hy; have X0 := hid (below_chain (below_chain hb1 hb2) hb3); obtain ⟨a0, a1, a2, a3⟩ := two_facts ((hB1.belowS hb2).belowS hb3))
    | ((with_reducible refine (hTw.out _ (HR.out.below X0.out)).mono ?_); rintro e w4 ⟨D, d, rfl, hO, hb4⟩)
    | ((with_reducible refine at_alloc (d := some 5) 47 ?_); refine wpList_al rfl 47 rfl _ (tap_zero _) ?_; intro w5 hB5 hb5 hy; clear hy)
    | ((with_reducible refine at_store 47 ?_); refine wpList_str rfl 47 _ _ rfl w4.heap.size _ rfl rfl _ _ hB5 rfl (tap_size _ _) (one_tap _ _ _ _) ?_; intro w6 hB6 hg6 hy; clear hy))
  have hq6 : Below w4.heap.size w4 w6 := hb5.grown hg6 hb5.size (by intro k e; cases e; exact Nat.le_refl _)
  have hq := below_chain hb4 hq6
  have X1 := hid (((hB1.belowS hb2).belowS hb3).belowS hq)
  have X2 := hid ((hB2.belowS hb3).belowS hq)
  have X3 := hid (hB3.belowS hq)
  have X5 := hid hB6
  have X0 := hid (below_chain X0.out hq)
  have l1 : w.heap.size < w1.heap.size := by have := hy1.out; omega
  have l2 : w1.heap.size < w2.heap.size := by have := hy2.out; omega
  have l3 : w2.heap.size < w3.heap.size := by have := hy3.out; omega
  have l4 : w3.heap.size ≤ w4.heap.size := hb4.size
  have l5 := hid hB6.lt
  have HO := hid (hO.below hq6)
  have hrl := hid (fun g (e : rowOf D d = some g) => (⟨(hO.row_lt g e).1, (hO.row_lt g e).2⟩ : w3.heap.size ≤ g ∧ g < w4.heap.size))
  clear hB1 hb1 hB2 hb2 hB3 hb3 hO hb4 hB5 hb5 hB6 hg6 hq6 hq a0 a1 a2 a3 hy1 hy2 hy3
  generalize w1.heap.size = g2 at *
  generalize w2.heap.size = g3 at *
  generalize w3.heap.size = lo at *
  generalize w4.heap.size = g5 at *
  obtain ⟨a0, a1, a2, a3⟩ := two_facts X1.out
  obtain ⟨b0, b1, b2, b3⟩ := two_facts X5.out
  obtain ⟨c0, c1, c2, c3⟩ := two_facts X2.out
  have hn1 : n = l.length + 1 := by have := hl.out; simpa using this.symm
  subst hn1
  have hcap := HO.out.cap.1
  simp only [List.length_cons] at HO hcap
  obtain ⟨b, o, hD, hlo, hrx⟩ := HO.out.rd.item HO2.out (k := 0) (x := x) rfl
  obtain ⟨ba, oa, hA, _, hra⟩ := (HR.out.below X0.out).item HO2.out (k := 0) (x := x) rfl
  rw [Nat.zero_mul, Nat.add_zero] at hra
  subst hD hA
  obtain ⟨ba', oa', hAe, _, hbaw, _⟩ := HR.out.lt (by omega)
  obtain ⟨rfl, rfl⟩ : ba = ba' ∧ oa = oa' := by cases hAe; exact ⟨rfl, rfl⟩
  clear hAe
  have hbaS : ba < g5 := by omega
  have hb2 : ba ≠ g2 := by omega
  have hb3 : ba ≠ g3 := by omega
  have hfr : Hid (Fr w6 lo 101 (if d = 1 then some ⟨b, o, none⟩ else some ⟨b, o + 101, none⟩) l.length (itsL l)) := hid (by
    have h1 := HO.out.rd.drop (k := 1) (cap := d) (by omega) hcap
    have h2 : (itsL (x :: l)).drop (1 * 101) = itsL l := by
      rw [show itsL (x :: l) = itL x ++ itsL l from rfl, List.drop_left' (by rw [itL_len x ox])]
    rw [h2] at h1
    simp only [Option.map_some, add_lit, Nat.one_mul, Nat.add_sub_cancel] at h1
    refine ⟨h1, fun hp b' o' e => ?_⟩
    obtain ⟨t, cs, hB⟩ := HO.out.fr.2 (by omega) b o rfl
    have : b' = b := by split at e <;> (cases e; rfl)
    subst this
    exact ⟨t, cs, hB⟩)
  have hbg : b < g5 := by
    have hr : rowOf (some (⟨b, o, none⟩ : Addr)) d = some b := by
      unfold rowOf
      rw [if_neg (by omega)]
      rfl
    exact (hrl.out b hr).2
  have h1n : (1 : Int) ≤ (l.length : Int) + 1 := by omega
  have h0n : (0 : Int) < (l.length : Int) + 1 := by omega
  have h1d : (l.length : Int) + 1 ≤ (d : Int) := by omega
  have hd1 : (1 : Int) ≤ (d : Int) := by omega
  clear hrx HO hrl
  generalize hXL : itL x = X at *
  have HXL := hid hXL
  clear hXL
  by_cases hd : d = 1
  · subst hd
    have hfr' : Hid (Fr w6 lo 101 (some ⟨b, o, none⟩) l.length (itsL l)) := hid (by have := hfr.out; rwa [if_pos rfl] at this)
    clear h1d hcap
    go_wp2_with fail
    have hC7 : Chg w6 (w6.setCell ⟨g5, 0, none⟩ (.slice (some ⟨b, o, none⟩) l.length 0)) (fun b => b = g5) := (Chg.refl w6 _).setCell (g := g5) (i := 0) _ (.inl rfl)
    have Y1 := hid (hC7.blk X1.out (by omega))
    have Y2 := hid (hC7.blk X2.out (by omega))
    have Y3 := hid (hC7.blk X3.out (by omega))
    have Y5 := hid (show Blk (w6.setCell ⟨g5, 0, none⟩ (.slice (some ⟨b, o, none⟩) l.length 0)) g5 47 #[.slice (some ⟨b, o, none⟩) l.length 0, .bool lost] from X5.out.set_ 0 _)
    have hbl := World.block_lt_of_cell? w6 _ (hra 0 (.bool x.1) (by rw [← HXL.out]; rfl))
    have hba5 : ba < g5 := hbaS
    have hra7 : (w6.setCell ⟨g5, 0, none⟩ (.slice (some ⟨b, o, none⟩) l.length 0)).rangeAt ba oa X := fun j v hv => (World.cell?_of_block (a := ⟨ba, oa + j, none⟩) (hC7.block ba hbl (show ba ≠ g5 by omega))).trans (hra j v hv)
    have hfr7 := hid (hfr'.out.keepB (by omega) hC7 (fun _ b' o' e hb => by cases e; omega))
    have hb7 := hid (below_of_chg X0.out hC7 (fun b e => by omega))
    clear a0 a1 a2 a3 b0 b1 b2 b3 c0 c1 c2 c3 hra X1 X2 X3 X5 hfr hfr' X0
    have hs7 : w6.heap.size = (w6.setCell ⟨g5, 0, none⟩ (.slice (some ⟨b, o, none⟩) l.length 0)).heap.size := by simp
    generalize w6.setCell ⟨g5, 0, none⟩ (.slice (some ⟨b, o, none⟩) l.length 0) = w7 at *
    have l7 : g5 < w7.heap.size := Y5.out.lt
    obtain ⟨a0, a1, a2, a3⟩ := two_facts Y1.out
    obtain ⟨b0, b1, b2, b3⟩ := two_facts Y5.out
    have hold : Hid (∀ w' : World, (∀ k, k < w7.drew.heap.size → k ≠ g2 → k ≠ g3 → w'.heap[k]? = w7.drew.heap[k]?) → w'.cell? ⟨w.heap.size, 0, none⟩ = some (.slice (some ⟨ba, oa, none⟩) (l.length + 1) c) ∧ w'.cell? ⟨g5, 0, none⟩ = some (.slice (some ⟨b, o, none⟩) l.length 0) ∧ w'.cell? ⟨g5, 1, none⟩ = some (.bool lost) ∧ w'.rangeAt ba oa X) := hid fun w' hk =>
      ⟨(World.cell?_of_block (a := ⟨w.heap.size, 0, none⟩) (hk w.heap.size (show w.heap.size < w7.heap.size by omega) (by omega) (by omega))).trans a0, (World.cell?_of_block (a := ⟨g5, 0, none⟩) (hk g5 l7 (by omega) (by omega))).trans b0, (World.cell?_of_block (a := ⟨g5, 1, none⟩) (hk g5 l7 (by omega) (by omega))).trans b1,
        fun j v hv => (World.cell?_of_block (a := ⟨ba, oa + j, none⟩) (hk ba (show ba < w7.heap.size by omega) hb2 hb3)).trans (hra7 j v hv)⟩
    refine wp_region_held_drew (S := (fun w' => w'.cell? ⟨w.heap.size, 0, none⟩ = some (.slice (some ⟨ba, oa, none⟩) (l.length + 1) c) ∧ w'.cell? ⟨g5, 0, none⟩ = some (.slice (some ⟨b, o, none⟩) l.length 0) ∧ w'.cell? ⟨g5, 1, none⟩ = some (.bool lost) ∧ w'.rangeAt ba oa X)) (by kernel_rfl) ⟨a0, b0, b1, hra7⟩ (fun hHeld => ?_)
    refine reg_take (v := ?_) 0 rfl (by kernel_rfl) (by kernel_rfl) (by kernel_rfl) (fun _ _ _ h => h) (Or.inl ⟨by rfl, ?_⟩) (by assumption) ?_; rotate_left; (intro w hSw; (try dsimp only at hSw); go_simp); (try with_reducible rfl); (try simp only [Act.put, List.setIfInBounds_toArray, List.set_cons_zero, List.set_cons_succ])
    refine reg_take (v := ?_) 1 rfl (by kernel_rfl) (by kernel_rfl) (by kernel_rfl) (fun _ _ _ h => h) (Or.inl ⟨by rfl, ?_⟩) (by assumption) ?_; rotate_left; (intro w hSw; (try dsimp only at hSw); go_simp); (try with_reducible rfl); (try simp only [Act.put, List.setIfInBounds_toArray, List.set_cons_zero, List.set_cons_succ])
    refine reg_take (v := ?_) 2 rfl (by kernel_rfl) (by kernel_rfl) (by kernel_rfl) (fun _ _ _ h => h) (Or.inl ⟨by rfl, ?_⟩) (by assumption) ?_; rotate_left; (intro w hSw; (try dsimp only at hSw); go_simp); (try with_reducible rfl); (try simp only [Act.put, List.setIfInBounds_toArray, List.set_cons_zero, List.set_cons_succ])
    refine reg_take (v := ?_) 3 rfl (by kernel_rfl) (by kernel_rfl) (by kernel_rfl) (fun _ _ _ h => h) (Or.inl ⟨by rfl, ?_⟩) (by assumption) ?_; rotate_left; (intro w hSw; (try dsimp only at hSw); go_simp); (try with_reducible rfl); (try simp only [Act.put, List.setIfInBounds_toArray, List.set_cons_zero, List.set_cons_succ])
    refine reg_take 4 rfl (by kernel_rfl) (by kernel_rfl) (by kernel_rfl) (fun _ _ _ h => h) (yieldsIf_load_mid (by rfl) _ _ rfl _ _ rfl _ _ (by intro w hSw; (try dsimp only at hSw); go_split_ands; assumption) (by assumption) (by rfl) (by assumption)) (by assumption) ?_; (try simp only [Act.put, List.setIfInBounds_toArray, List.set_cons_zero, List.set_cons_succ])
    refine reg_only 5 rfl (by kernel_rfl) (fun K hK => ?_); refine step_str rfl 47 _ _ rfl g2 #[.slice (some ⟨b, o, none⟩) l.length 0, .bool lost] rfl rfl _ _ Y2.out.drew rfl (tap_size _ _) (one_tap _ _ _ _) ?_; intro w8 hB8 hg8 hy; clear hy; have hC8 := (Chg.of_grown hg8); have hS8 := hold.out w8 (fun k hk h2 h3 => hC8.block k hk (fun e => h2 (Option.some.inj e).symm)); have hB8' := Y3.out.drew.grown hg8 (by simp; omega); refine hK.out _ _ ?_ (fun hHeld => ?_); (exact hS8); clear hK K; (try simp only [Act.put, List.setIfInBounds_toArray, List.set_cons_zero, List.set_cons_succ])
    refine reg_only 6 rfl (by kernel_rfl) (fun K hK => ?_); refine step_str rfl 36 _ _ rfl g3 X.toArray rfl rfl _ _ hB8' hXZ hsaZ honeX.out ?_; intro w9 hB9 hg9 hy; clear hy; have hB9' := hB8.grown hg9 (by simp; omega); have hC9 := (Chg.of_grown hg9); have hS9 := hold.out w9 (fun k hk h2 h3 => (hC9.block k (Nat.lt_of_lt_of_le hk hC8.size) (fun e => h3 (Option.some.inj e).symm)).trans (hC8.block k hk (fun e => h2 (Option.some.inj e).symm))); refine hK.out _ _ ?_ (fun hHeld => ?_); (exact hS9); clear hK K; (try simp only [Act.put, List.setIfInBounds_toArray, List.set_cons_zero, List.set_cons_succ])
    refine reg_take (v := ?_) 7 rfl (by kernel_rfl) (by kernel_rfl) (by kernel_rfl) (fun _ _ _ h => h) (Or.inl ⟨by rfl, ?_⟩) (by assumption) ?_; rotate_left; (intro w hSw; (try dsimp only at hSw); go_simp); (try with_reducible rfl); (try simp only [Act.put, List.setIfInBounds_toArray, List.set_cons_zero, List.set_cons_succ])
    refine wpAnyH_done (by kernel_rfl) ?_ _
    have hF := (hfr7.out.below (below_self_drew w7)).chg (by omega) ((Chg.of_grown hg8).trans (Chg.of_grown hg9) (bad := fun k => k = g2 ∨ k = g3) (fun k e => .inl (Option.some.inj e).symm) (fun k _ e => .inr (Option.some.inj e).symm)) (fun k hk e => by omega)
    have hbf := below_set (below_set (below_drew1 hb7.out) hg8 (by omega)) hg9 (by omega)
    go_wp2
    have hres := results_ccs (P := Tryd.prog) (fn := Tryd.f40) (p := 2) (q := 3) (t := 4) rfl
    refine bodyPost_ret (hres _ _ g2 g3 _ _ _ _ rfl rfl hB9' hB9 Tryd.underlying47 Tryd.underlying36 rfl rfl (tap_size _ _) hsaX) rfl ?_
    exact ⟨_, _, _, by rw [HXL.out]; rfl, hF.low (by omega), hbf⟩
  · have hfr' : Hid (Fr w6 lo 101 (some ⟨b, o + 101, none⟩) l.length (itsL l)) := hid (by have := hfr.out; rwa [if_neg hd] at this)
    go_wp2_with fail
    have hC7 : Chg w6 (w6.setCell ⟨g5, 0, none⟩ (.slice (some ⟨b, o + 101, none⟩) l.length (d - 1))) (fun b => b = g5) := (Chg.refl w6 _).setCell (g := g5) (i := 0) _ (.inl rfl)
    have Y1 := hid (hC7.blk X1.out (by omega))
    have Y2 := hid (hC7.blk X2.out (by omega))
    have Y3 := hid (hC7.blk X3.out (by omega))
    have Y5 := hid (show Blk (w6.setCell ⟨g5, 0, none⟩ (.slice (some ⟨b, o + 101, none⟩) l.length (d - 1))) g5 47 #[.slice (some ⟨b, o + 101, none⟩) l.length (d - 1), .bool lost] from X5.out.set_ 0 _)
    have hbl := World.block_lt_of_cell? w6 _ (hra 0 (.bool x.1) (by rw [← HXL.out]; rfl))
    have hba5 : ba < g5 := hbaS
    have hra7 : (w6.setCell ⟨g5, 0, none⟩ (.slice (some ⟨b, o + 101, none⟩) l.length (d - 1))).rangeAt ba oa X := fun j v hv => (World.cell?_of_block (a := ⟨ba, oa + j, none⟩) (hC7.block ba hbl (show ba ≠ g5 by omega))).trans (hra j v hv)
    have hfr7 := hid (hfr'.out.keepB (by omega) hC7 (fun _ b' o' e hb => by cases e; omega))
    have hb7 := hid (below_of_chg X0.out hC7 (fun b e => by omega))
    clear a0 a1 a2 a3 b0 b1 b2 b3 c0 c1 c2 c3 hra X1 X2 X3 X5 hfr hfr' X0
    have hs7 : w6.heap.size = (w6.setCell ⟨g5, 0, none⟩ (.slice (some ⟨b, o + 101, none⟩) l.length (d - 1))).heap.size := by simp
    generalize w6.setCell ⟨g5, 0, none⟩ (.slice (some ⟨b, o + 101, none⟩) l.length (d - 1)) = w7 at *
    have l7 : g5 < w7.heap.size := Y5.out.lt
    obtain ⟨a0, a1, a2, a3⟩ := two_facts Y1.out
    obtain ⟨b0, b1, b2, b3⟩ := two_facts Y5.out
    have hold : Hid (∀ w' : World, (∀ k, k < w7.drew.heap.size → k ≠ g2 → k ≠ g3 → w'.heap[k]? = w7.drew.heap[k]?) → w'.cell? ⟨w.heap.size, 0, none⟩ = some (.slice (some ⟨ba, oa, none⟩) (l.length + 1) c) ∧ w'.cell? ⟨g5, 0, none⟩ = some (.slice (some ⟨b, o + 101, none⟩) l.length (d - 1)) ∧ w'.cell? ⟨g5, 1, none⟩ = some (.bool lost) ∧ w'.rangeAt ba oa X) := hid fun w' hk =>
      ⟨(World.cell?_of_block (a := ⟨w.heap.size, 0, none⟩) (hk w.heap.size (show w.heap.size < w7.heap.size by omega) (by omega) (by omega))).trans a0, (World.cell?_of_block (a := ⟨g5, 0, none⟩) (hk g5 l7 (by omega) (by omega))).trans b0, (World.cell?_of_block (a := ⟨g5, 1, none⟩) (hk g5 l7 (by omega) (by omega))).trans b1,
        fun j v hv => (World.cell?_of_block (a := ⟨ba, oa + j, none⟩) (hk ba (show ba < w7.heap.size by omega) hb2 hb3)).trans (hra7 j v hv)⟩
    refine wp_region_held_drew (S := (fun w' => w'.cell? ⟨w.heap.size, 0, none⟩ = some (.slice (some ⟨ba, oa, none⟩) (l.length + 1) c) ∧ w'.cell? ⟨g5, 0, none⟩ = some (.slice (some ⟨b, o + 101, none⟩) l.length (d - 1)) ∧ w'.cell? ⟨g5, 1, none⟩ = some (.bool lost) ∧ w'.rangeAt ba oa X)) (by kernel_rfl) ⟨a0, b0, b1, hra7⟩ (fun hHeld => ?_)
    refine reg_take (v := ?_) 0 rfl (by kernel_rfl) (by kernel_rfl) (by kernel_rfl) (fun _ _ _ h => h) (Or.inl ⟨by rfl, ?_⟩) (by assumption) ?_; rotate_left; (intro w hSw; (try dsimp only at hSw); go_simp); (try with_reducible rfl); (try simp only [Act.put, List.setIfInBounds_toArray, List.set_cons_zero, List.set_cons_succ])
    refine reg_take (v := ?_) 1 rfl (by kernel_rfl) (by kernel_rfl) (by kernel_rfl) (fun _ _ _ h => h) (Or.inl ⟨by rfl, ?_⟩) (by assumption) ?_; rotate_left; (intro w hSw; (try dsimp only at hSw); go_simp); (try with_reducible rfl); (try simp only [Act.put, List.setIfInBounds_toArray, List.set_cons_zero, List.set_cons_succ])
    refine reg_take (v := ?_) 2 rfl (by kernel_rfl) (by kernel_rfl) (by kernel_rfl) (fun _ _ _ h => h) (Or.inl ⟨by rfl, ?_⟩) (by assumption) ?_; rotate_left; (intro w hSw; (try dsimp only at hSw); go_simp); (try with_reducible rfl); (try simp only [Act.put, List.setIfInBounds_toArray, List.set_cons_zero, List.set_cons_succ])
    refine reg_take (v := ?_) 3 rfl (by kernel_rfl) (by kernel_rfl) (by kernel_rfl) (fun _ _ _ h => h) (Or.inl ⟨by rfl, ?_⟩) (by assumption) ?_; rotate_left; (intro w hSw; (try dsimp only at hSw); go_simp); (try with_reducible rfl); (try simp only [Act.put, List.setIfInBounds_toArray, List.set_cons_zero, List.set_cons_succ])
    refine reg_take 4 rfl (by kernel_rfl) (by kernel_rfl) (by kernel_rfl) (fun _ _ _ h => h) (yieldsIf_load_mid (by rfl) _ _ rfl _ _ rfl _ _ (by intro w hSw; (try dsimp only at hSw); go_split_ands; assumption) (by assumption) (by rfl) (by assumption)) (by assumption) ?_; (try simp only [Act.put, List.setIfInBounds_toArray, List.set_cons_zero, List.set_cons_succ])
    refine reg_only 5 rfl (by kernel_rfl) (fun K hK => ?_); refine step_str rfl 47 _ _ rfl g2 #[.slice (some ⟨b, o + 101, none⟩) l.length (d - 1), .bool lost] rfl rfl _ _ Y2.out.drew rfl (tap_size _ _) (one_tap _ _ _ _) ?_; intro w8 hB8 hg8 hy; clear hy; have hC8 := (Chg.of_grown hg8); have hS8 := hold.out w8 (fun k hk h2 h3 => hC8.block k hk (fun e => h2 (Option.some.inj e).symm)); have hB8' := Y3.out.drew.grown hg8 (by simp; omega); refine hK.out _ _ ?_ (fun hHeld => ?_); (exact hS8); clear hK K; (try simp only [Act.put, List.setIfInBounds_toArray, List.set_cons_zero, List.set_cons_succ])
    refine reg_only 6 rfl (by kernel_rfl) (fun K hK => ?_); refine step_str rfl 36 _ _ rfl g3 X.toArray rfl rfl _ _ hB8' hXZ hsaZ honeX.out ?_; intro w9 hB9 hg9 hy; clear hy; have hB9' := hB8.grown hg9 (by simp; omega); have hC9 := (Chg.of_grown hg9); have hS9 := hold.out w9 (fun k hk h2 h3 => (hC9.block k (Nat.lt_of_lt_of_le hk hC8.size) (fun e => h3 (Option.some.inj e).symm)).trans (hC8.block k hk (fun e => h2 (Option.some.inj e).symm))); refine hK.out _ _ ?_ (fun hHeld => ?_); (exact hS9); clear hK K; (try simp only [Act.put, List.setIfInBounds_toArray, List.set_cons_zero, List.set_cons_succ])
    refine reg_take (v := ?_) 7 rfl (by kernel_rfl) (by kernel_rfl) (by kernel_rfl) (fun _ _ _ h => h) (Or.inl ⟨by rfl, ?_⟩) (by assumption) ?_; rotate_left; (intro w hSw; (try dsimp only at hSw); go_simp); (try with_reducible rfl); (try simp only [Act.put, List.setIfInBounds_toArray, List.set_cons_zero, List.set_cons_succ])
    refine wpAnyH_done (by kernel_rfl) ?_ _
    have hF := (hfr7.out.below (below_self_drew w7)).chg (by omega) ((Chg.of_grown hg8).trans (Chg.of_grown hg9) (bad := fun k => k = g2 ∨ k = g3) (fun k e => .inl (Option.some.inj e).symm) (fun k _ e => .inr (Option.some.inj e).symm)) (fun k hk e => by omega)
    have hbf := below_set (below_set (below_drew1 hb7.out) hg8 (by omega)) hg9 (by omega)
    go_wp2
    have hres := results_ccs (P := Tryd.prog) (fn := Tryd.f40) (p := 2) (q := 3) (t := 4) rfl
    refine bodyPost_ret (hres _ _ g2 g3 _ _ _ _ rfl rfl hB9' hB9 Tryd.underlying47 Tryd.underlying36 rfl rfl (tap_size _ _) hsaX) rfl ?_
    exact ⟨_, _, _, by rw [HXL.out]; rfl, hF.low (by omega), hbf⟩

theorem taken_any (A : Option Addr) (n c : Nat) (lost : Bool) (xs : List It) (ho : ItsOk xs) (w : World) (hr : Rd w 0 101 A n (itsL xs)) (hn : n ≤ 1000) :
    Calls Tryd.prog 40 #[.agg #[.slice A n c, .bool lost]] w (GivesK w (takenT xs lost)) := by
  unfold takenT
  cases xs with
  | nil =>
    cases lost
    · exact taken_none A n c false [] ho w hr hn rfl rfl
    · exact taken_gap A n c true [] ho w hr hn rfl rfl
  | cons x l => exact taken_cons A n c lost (x :: l) ho w hr hn x l rfl
end Go.Proofs.YtmepbokoopgmiaaDoor
