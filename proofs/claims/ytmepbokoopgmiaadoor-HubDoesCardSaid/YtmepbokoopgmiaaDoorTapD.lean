/-
  Contracts of tap's Poll and Push. No condition beyond those each theorem names.
-/
import Derived.Test.YtmepbokoopgmiaaDoorTapC
import Derived.Test.YtmepbokoopgmiaaDoorRegL
namespace Go.Proofs.YtmepbokoopgmiaaDoor
open Go.RowKit
set_option linter.unusedSimpArgs false

theorem one_tap (A : Option Addr) (n c : Nat) (b : Bool) : ∀ v ∈ (#[.slice A n c, .bool b] : Array Value), v.oneCell' = true := by
  intro v hv
  simp at hv
  rcases hv with rfl | rfl <;> rfl
theorem tap_size (a b : Value) : (Tryd.prog.info? 47).map (·.size) = some (#[a, b] : Array Value).size := by
  show _ = some 2
  kernel_rfl
theorem tap_zero (w : World) : (zeroValue 47).run Tryd.prog w = .ok (.agg #[.slice none 0 0, .bool false]) w := by kernel_rfl
theorem it_one (x : It) : ∀ v ∈ (itL x).toArray, v.oneCell' = true := fun v hv => itL_one x v (by simpa using hv)
theorem Blk.range0 {w : World} {g : Nat} {t : TypeId} {l : List Value} (h : Blk w g t l.toArray) : w.rangeAt g 0 l := h.range_from 0 l (fun j _ => by simp)
/-- What is polled: the tap, the item, the error. -/
def pollT (xs : List It) (lost : Bool) : List It × Bool × It × Int :=
  if itsMay xs then (match xs with
    | x :: l => (l, lost, x, 0)
    | [] => if lost then ([], false, gapIt, 0) else ([], false, zeroIt, 6)) else ([], false, zeroIt, 8)
/-- What Poll answers. -/
def GivesP (w : World) (r : List It × Bool × It × Int) (e : Ending) (w' : World) : Prop :=
  ∃ D m c, e = .returned (.tuple #[.agg #[.slice D m c, .bool r.2.1], .agg (itL r.2.2.1).toArray, .int .i64 r.2.2.2]) ∧ Fr w' w.heap.size 101 D m (itsL r.1) ∧ Below w.heap.size w w'
theorem range_grown {w w' : World} {b o k : Nat} {cs : List Value} (h : w.rangeAt b o cs) (hg : w.grownBy w' (some k)) (hl : b < w.heap.size) (hne : b ≠ k) : w'.rangeAt b o cs := fun j v hv => by
  rw [← h j v hv]
  exact World.cell?_of_block (hg.block b hl (fun e => hne (Option.some.inj e)))
set_option maxRecDepth 100000 in
set_option maxHeartbeats 4000000 in
theorem poll_bad (A : Option Addr) (n c : Nat) (lost : Bool) (xs : List It) (ho : ItsOk xs) (w : World) (hr : Rd w 0 101 A n (itsL xs)) (hG : GOk w) (hm : itsMay xs = false) :
    Calls Tryd.prog 30 #[.agg #[.slice A n c, .bool lost]] w (GivesP w ([], false, zeroIt, 8)) := by
  have hszZ := it_size zeroIt zeroIt_ok
  have hsaZ := it_sizeA zeroIt zeroIt_ok
  have hu32 := Tryd.underlying36
  have honeZ := hid (it_one zeroIt)
  have hC := hid (fun W (h : Rd W 0 101 A n (itsL xs)) (k : GOk W) => check_any A n c lost xs ho W h k)
  have HR := hid hr
  have HG := hid hG
  have hE : Hid (errOf (itsMay xs) = 8) := hid (by rw [hm]; rfl)
  clear hr hG
  have hzr : ∀ W, (zeroValue 36).run Tryd.prog W = .ok (.agg (itL zeroIt).toArray) W := zeroI_run
  have HZR := hid hzr
  clear hzr
  generalize hZL : itL zeroIt = Z at *
  have HZL := hid hZL
  clear hZL
  go_enter Tryd.func30, Tryd.ntmps30
  go_upto_region 1 with (first
    | (refine wpList_bx rfl 47 _ rfl #[.slice A n c, .bool lost] rfl ?_; intro w1 hB1 hb1 hy; have hz1 := hid hy; clear hy)
    | ((with_reducible refine at_alloc 47 ?_); refine wpList_al rfl 47 rfl _ (tap_zero _) ?_; intro w2 hB2 hb2 hy; have hz2 := hid hy; clear hy)
    | ((with_reducible refine at_alloc 36 ?_); refine wpList_al rfl 36 rfl _ (HZR.out _) ?_; intro w3 hB3 hb3 hy; have hz3 := hid hy; clear hy))
  have hb03 := below_chain (below_chain hb1 hb2) hb3
  have X1 := hid ((hB1.belowS hb2).belowS hb3)
  have X2 := hid (hB2.belowS hb3)
  have X3 := hid hB3
  have l1 := (hB1.belowS hb2).lt
  have l2 := (hB2.belowS hb3).lt
  have l3 := hB2.lt
  have X0 := hid hb03
  have e1 : w.heap.size < w1.heap.size := by have := hz1.out; omega
  clear hB1 hb1 hz1 hB2 hb2 hz2 hB3 hb3 hz3 hb03
  generalize w1.heap.size = g2 at *
  generalize w2.heap.size = g3 at *
  obtain ⟨a0, a1, a2, a3⟩ := two_facts X1.out
  go_wp2_with fail
  have hCC := hC.out _ (HR.out.below X0.out) (HG.out.below X0.out)
  rw [hE.out] at hCC
  refine hCC.mono ?_
  rintro e w4 ⟨rfl, hb4⟩
  clear hCC a0 a1 a2 a3
  have X1 := hid (X1.out.belowS hb4)
  have X2 := hid (X2.out.belowS hb4)
  have X3 := hid (X3.out.belowS hb4)
  have X0 := hid (below_chain X0.out hb4)
  have l2 : g2 < w4.heap.size := X2.out.lt
  have l4 : g3 < w4.heap.size := X3.out.lt
  obtain ⟨a0, a1, a2, a3⟩ := two_facts X1.out
  go_wp2_with fail
  have X2d := X2.out.drew
  have X3d := X3.out.drew
  obtain ⟨p0, p1, p2, p3⟩ := two_facts X2d
  refine wp_region_held_drew (S := (fun w' => w'.cell? ⟨g2, 0, none⟩ = some (.slice none 0 0) ∧ w'.cell? ⟨g2, 1, none⟩ = some (.bool false) ∧ w'.rangeAt g3 0 Z)) (by kernel_rfl) ⟨p0, p1, X3d.range0⟩ (fun hHeld => ?_)
  refine reg_take (v := ?_) 0 rfl (by kernel_rfl) (by kernel_rfl) (by kernel_rfl) (fun _ _ _ h => h) (Or.inl ⟨by rfl, ?_⟩) (by assumption) ?_; rotate_left; (intro w hSw; (try dsimp only at hSw); go_simp); (try with_reducible rfl); (try simp only [Act.put, List.setIfInBounds_toArray, List.set_cons_zero, List.set_cons_succ])
  refine reg_take 1 rfl (by kernel_rfl) (by kernel_rfl) (by kernel_rfl) (fun _ _ _ h => h) (yieldsIf_load_mid (by rfl) _ _ rfl _ _ rfl _ _ (by intro w hSw; (try dsimp only at hSw); go_split_ands; assumption) (by assumption) (by rfl) (by assumption)) (by assumption) ?_; (try simp only [Act.put, List.setIfInBounds_toArray, List.set_cons_zero, List.set_cons_succ])
  refine reg_only 2 rfl (by kernel_rfl) (fun K hK => ?_); refine step_str rfl 47 _ _ rfl g2 #[.slice none 0 0, .bool false] rfl rfl _ _ X2d rfl (tap_size _ _) (one_tap _ _ _ _) ?_; intro w8 hB8 hg8 hy; clear hy; have hB8' := X3d.grown hg8 (by simp; omega); obtain ⟨q0, q1, _, _⟩ := two_facts hB8; refine hK.out _ _ ?_ (fun hHeld => ?_); (exact ⟨q0, q1, hB8'.range0⟩); clear hK K; (try simp only [Act.put, List.setIfInBounds_toArray, List.set_cons_zero, List.set_cons_succ])
  refine reg_only 3 rfl (by kernel_rfl) (fun K hK => ?_); refine step_str rfl 36 _ _ rfl g3 (List.toArray Z) rfl rfl _ _ hB8' rfl hsaZ honeZ.out ?_; intro w9 hB9 hg9 hy; clear hy; have hB9' := hB8.grown hg9 (by simp; omega); obtain ⟨r0, r1, _, _⟩ := two_facts hB9'; refine hK.out _ _ ?_ (fun hHeld => ?_); (exact ⟨r0, r1, hB9.range0⟩); clear hK K; (try simp only [Act.put, List.setIfInBounds_toArray, List.set_cons_zero, List.set_cons_succ])
  refine reg_take (v := ?_) 4 rfl (by kernel_rfl) (by kernel_rfl) (by kernel_rfl) (fun _ _ _ h => h) (Or.inl ⟨by rfl, ?_⟩) (by assumption) ?_; rotate_left; (intro w hSw; (try dsimp only at hSw); go_simp); (try with_reducible rfl); (try simp only [Act.put, List.setIfInBounds_toArray, List.set_cons_zero, List.set_cons_succ])
  refine wpAnyH_done (by kernel_rfl) ?_ _
  have hbf := below_set (below_set (below_drew1 X0.out) hg8 (by omega)) hg9 (by omega)
  go_wp2
  have hres := results_ccs (P := Tryd.prog) (fn := Tryd.f30) (p := 2) (q := 3) (t := 4) rfl
  refine bodyPost_ret (hres _ _ g2 g3 _ _ _ _ rfl rfl hB9' hB9 Tryd.underlying47 Tryd.underlying36 rfl rfl (tap_size _ _) hsaZ) rfl ?_
  exact ⟨none, 0, 0, by rw [HZL.out]; rfl, Fr.nil _ _ _ _, hbf⟩

set_option maxRecDepth 100000 in
set_option maxHeartbeats 4000000 in
theorem poll_none (A : Option Addr) (c : Nat) (w : World) (hG : GOk w) :
    Calls Tryd.prog 30 #[.agg #[.slice A 0 c, .bool false]] w (GivesP w ([], false, zeroIt, 6)) := by
  have ho : ItsOk [] := fun x hx => by cases hx
  have hr : Rd w 0 101 A 0 (itsL []) := Rd.nil _ _ _ _
  have hszZ := it_size zeroIt zeroIt_ok
  have hsaZ := it_sizeA zeroIt zeroIt_ok
  have hu32 := Tryd.underlying36
  have honeZ := hid (it_one zeroIt)
  have hC := hid (fun W (h : Rd W 0 101 A 0 (itsL [])) (k : GOk W) => check_any A 0 c false [] ho W h k)
  have HR := hid hr
  have HG := hid hG
  have hE : Hid (errOf (itsMay []) = 0) := hid rfl
  clear hr hG
  have hzr : ∀ W, (zeroValue 36).run Tryd.prog W = .ok (.agg (itL zeroIt).toArray) W := zeroI_run
  have HZR := hid hzr
  clear hzr
  generalize hZL : itL zeroIt = Z at *
  have HZL := hid hZL
  clear hZL
  go_enter Tryd.func30, Tryd.ntmps30
  go_upto_region 1 with (first
    | (refine wpList_bx rfl 47 _ rfl #[.slice A 0 c, .bool false] rfl ?_; intro w1 hB1 hb1 hy; have hz1 := hid hy; clear hy)
    | ((with_reducible refine at_alloc 47 ?_); refine wpList_al rfl 47 rfl _ (tap_zero _) ?_; intro w2 hB2 hb2 hy; have hz2 := hid hy; clear hy)
    | ((with_reducible refine at_alloc 36 ?_); refine wpList_al rfl 36 rfl _ (HZR.out _) ?_; intro w3 hB3 hb3 hy; have hz3 := hid hy; clear hy))
  have hb03 := below_chain (below_chain hb1 hb2) hb3
  have X1 := hid ((hB1.belowS hb2).belowS hb3)
  have X2 := hid (hB2.belowS hb3)
  have X3 := hid hB3
  have l1 := (hB1.belowS hb2).lt
  have l2 := (hB2.belowS hb3).lt
  have l3 := hB2.lt
  have X0 := hid hb03
  have e1 : w.heap.size < w1.heap.size := by have := hz1.out; omega
  clear hB1 hb1 hz1 hB2 hb2 hz2 hB3 hb3 hz3 hb03
  generalize w1.heap.size = g2 at *
  generalize w2.heap.size = g3 at *
  obtain ⟨a0, a1, a2, a3⟩ := two_facts X1.out
  go_wp2_with fail
  have hCC := hC.out _ (HR.out.below X0.out) (HG.out.below X0.out)
  rw [hE.out] at hCC
  refine hCC.mono ?_
  rintro e w4 ⟨rfl, hb4⟩
  clear hCC a0 a1 a2 a3
  have X1 := hid (X1.out.belowS hb4)
  have X2 := hid (X2.out.belowS hb4)
  have X3 := hid (X3.out.belowS hb4)
  have X0 := hid (below_chain X0.out hb4)
  have l2 : g2 < w4.heap.size := X2.out.lt
  have l4 : g3 < w4.heap.size := X3.out.lt
  obtain ⟨a0, a1, a2, a3⟩ := two_facts X1.out
  go_wp2_with fail
  have X2d := X2.out.drew
  have X3d := X3.out.drew
  obtain ⟨p0, p1, p2, p3⟩ := two_facts X2d
  refine wp_region_held_drew (S := (fun w' => w'.cell? ⟨g2, 0, none⟩ = some (.slice none 0 0) ∧ w'.cell? ⟨g2, 1, none⟩ = some (.bool false) ∧ w'.rangeAt g3 0 Z)) (by kernel_rfl) ⟨p0, p1, X3d.range0⟩ (fun hHeld => ?_)
  refine reg_take (v := ?_) 0 rfl (by kernel_rfl) (by kernel_rfl) (by kernel_rfl) (fun _ _ _ h => h) (Or.inl ⟨by rfl, ?_⟩) (by assumption) ?_; rotate_left; (intro w hSw; (try dsimp only at hSw); go_simp); (try with_reducible rfl); (try simp only [Act.put, List.setIfInBounds_toArray, List.set_cons_zero, List.set_cons_succ])
  refine reg_take 1 rfl (by kernel_rfl) (by kernel_rfl) (by kernel_rfl) (fun _ _ _ h => h) (yieldsIf_load_mid (by rfl) _ _ rfl _ _ rfl _ _ (by intro w hSw; (try dsimp only at hSw); go_split_ands; assumption) (by assumption) (by rfl) (by assumption)) (by assumption) ?_; (try simp only [Act.put, List.setIfInBounds_toArray, List.set_cons_zero, List.set_cons_succ])
  refine reg_only 2 rfl (by kernel_rfl) (fun K hK => ?_); refine step_str rfl 47 _ _ rfl g2 #[.slice none 0 0, .bool false] rfl rfl _ _ X2d rfl (tap_size _ _) (one_tap _ _ _ _) ?_; intro w8 hB8 hg8 hy; clear hy; have hB8' := X3d.grown hg8 (by simp; omega); obtain ⟨q0, q1, _, _⟩ := two_facts hB8; refine hK.out _ _ ?_ (fun hHeld => ?_); (exact ⟨q0, q1, hB8'.range0⟩); clear hK K; (try simp only [Act.put, List.setIfInBounds_toArray, List.set_cons_zero, List.set_cons_succ])
  refine reg_only 3 rfl (by kernel_rfl) (fun K hK => ?_); refine step_str rfl 36 _ _ rfl g3 (List.toArray Z) rfl rfl _ _ hB8' rfl hsaZ honeZ.out ?_; intro w9 hB9 hg9 hy; clear hy; have hB9' := hB8.grown hg9 (by simp; omega); obtain ⟨r0, r1, _, _⟩ := two_facts hB9'; refine hK.out _ _ ?_ (fun hHeld => ?_); (exact ⟨r0, r1, hB9.range0⟩); clear hK K; (try simp only [Act.put, List.setIfInBounds_toArray, List.set_cons_zero, List.set_cons_succ])
  refine reg_take (v := ?_) 4 rfl (by kernel_rfl) (by kernel_rfl) (by kernel_rfl) (fun _ _ _ h => h) (Or.inl ⟨by rfl, ?_⟩) (by assumption) ?_; rotate_left; (intro w hSw; (try dsimp only at hSw); go_simp); (try with_reducible rfl); (try simp only [Act.put, List.setIfInBounds_toArray, List.set_cons_zero, List.set_cons_succ])
  refine wpAnyH_done (by kernel_rfl) ?_ _
  have hbf := below_set (below_set (below_drew1 X0.out) hg8 (by omega)) hg9 (by omega)
  go_wp2
  have hres := results_ccs (P := Tryd.prog) (fn := Tryd.f30) (p := 2) (q := 3) (t := 4) rfl
  refine bodyPost_ret (hres _ _ g2 g3 _ _ _ _ rfl rfl hB9' hB9 Tryd.underlying47 Tryd.underlying36 rfl rfl (tap_size _ _) hsaZ) rfl ?_
  exact ⟨none, 0, 0, by rw [HZL.out]; rfl, Fr.nil _ _ _ _, hbf⟩

set_option maxRecDepth 100000 in
set_option maxHeartbeats 4000000 in
theorem poll_lost (A : Option Addr) (c : Nat) (w : World) (hG : GOk w) :
    Calls Tryd.prog 30 #[.agg #[.slice A 0 c, .bool true]] w (GivesP w ([], false, gapIt, 0)) := by
  have ho : ItsOk [] := fun x hx => by cases hx
  have hr : Rd w 0 101 A 0 (itsL []) := Rd.nil _ _ _ _
  have hszZ := it_size zeroIt zeroIt_ok
  have hsaZ := it_sizeA zeroIt zeroIt_ok
  have hu32 := Tryd.underlying36
  have honeZ := hid (it_one zeroIt)
  have hC := hid (fun W (h : Rd W 0 101 A 0 (itsL [])) (k : GOk W) => check_any A 0 c true [] ho W h k)
  have HR := hid hr
  have HG := hid hG
  have hE : Hid (errOf (itsMay []) = 0) := hid rfl
  have hszG := it_size gapIt gapIt_ok
  have hsaG := it_sizeA gapIt gapIt_ok
  have hGZ : (itL gapIt).toArray.size = (itL zeroIt).toArray.size := by rw [List.size_toArray, List.size_toArray, itL_len gapIt gapIt_ok, itL_len zeroIt zeroIt_ok]
  have honeG := hid (it_one gapIt)
  have HGr : Hid (∀ W, GOk W → W.rangeAt 0 0 (itL gapIt)) := hid (fun W h => h)
  have hGl : 0 < w.heap.size := hG.lt
  clear hr hG
  have hzr : ∀ W, (zeroValue 36).run Tryd.prog W = .ok (.agg (itL zeroIt).toArray) W := zeroI_run
  have HZR := hid hzr
  clear hzr
  generalize hGPL : itL gapIt = GP at *
  have HGPL := hid hGPL
  clear hGPL
  generalize hZL : itL zeroIt = Z at *
  have HZL := hid hZL
  clear hZL
  go_enter Tryd.func30, Tryd.ntmps30
  go_upto_region 1 with (first
    | (refine wpList_bx rfl 47 _ rfl #[.slice A 0 c, .bool true] rfl ?_; intro w1 hB1 hb1 hy; have hz1 := hid hy; clear hy)
    | ((with_reducible refine at_alloc 47 ?_); refine wpList_al rfl 47 rfl _ (tap_zero _) ?_; intro w2 hB2 hb2 hy; have hz2 := hid hy; clear hy)
    | ((with_reducible refine at_alloc 36 ?_); refine wpList_al rfl 36 rfl _ (HZR.out _) ?_; intro w3 hB3 hb3 hy; have hz3 := hid hy; clear hy))
  have hb03 := below_chain (below_chain hb1 hb2) hb3
  have X1 := hid ((hB1.belowS hb2).belowS hb3)
  have X2 := hid (hB2.belowS hb3)
  have X3 := hid hB3
  have l1 := (hB1.belowS hb2).lt
  have l2 := (hB2.belowS hb3).lt
  have l3 := hB2.lt
  have X0 := hid hb03
  have e1 : w.heap.size < w1.heap.size := by have := hz1.out; omega
  clear hB1 hb1 hz1 hB2 hb2 hz2 hB3 hb3 hz3 hb03
  generalize w1.heap.size = g2 at *
  generalize w2.heap.size = g3 at *
  obtain ⟨a0, a1, a2, a3⟩ := two_facts X1.out
  go_wp2_with fail
  have hCC := hC.out _ (HR.out.below X0.out) (HG.out.below X0.out)
  rw [hE.out] at hCC
  refine hCC.mono ?_
  rintro e w4 ⟨rfl, hb4⟩
  clear hCC a0 a1 a2 a3
  have X1 := hid (X1.out.belowS hb4)
  have X2 := hid (X2.out.belowS hb4)
  have X3 := hid (X3.out.belowS hb4)
  have X0 := hid (below_chain X0.out hb4)
  have l2 : g2 < w4.heap.size := X2.out.lt
  have l4 : g3 < w4.heap.size := X3.out.lt
  obtain ⟨a0, a1, a2, a3⟩ := two_facts X1.out
  go_wp2_with fail
  have X2d := X2.out.drew
  have X3d := X3.out.drew
  obtain ⟨p0, p1, p2, p3⟩ := two_facts X2d
  have G4 : w4.drew.rangeAt 0 0 GP := (World.rangeAt_drew _ _ _ _).2 (HGr.out _ (HG.out.below X0.out))
  have hdw : w4.drew.heap.size = w4.heap.size := rfl
  refine wp_region_held_drew (S := (fun w' => w'.cell? ⟨g2, 0, none⟩ = some (.slice none 0 0) ∧ w'.cell? ⟨g2, 1, none⟩ = some (.bool false) ∧ w'.rangeAt 0 0 GP)) (by kernel_rfl) ⟨p0, p1, G4⟩ (fun hHeld => ?_)
  refine reg_take (v := ?_) 0 rfl (by kernel_rfl) (by kernel_rfl) (by kernel_rfl) (fun _ _ _ h => h) (Or.inl ⟨by rfl, ?_⟩) (by assumption) ?_; rotate_left; (intro w hSw; (try dsimp only at hSw); go_simp); (try with_reducible rfl); (try simp only [Act.put, List.setIfInBounds_toArray, List.set_cons_zero, List.set_cons_succ])
  refine reg_take 1 rfl (by kernel_rfl) (by kernel_rfl) (by kernel_rfl) (fun _ _ _ h => h) (yieldsIf_load_mid (by rfl) _ _ rfl _ _ rfl _ _ (by intro w hSw; (try dsimp only at hSw); go_split_ands; assumption) (by assumption) (by rfl) (by assumption)) (by assumption) ?_; (try simp only [Act.put, List.setIfInBounds_toArray, List.set_cons_zero, List.set_cons_succ])
  refine reg_only 2 rfl (by kernel_rfl) (fun K hK => ?_); refine step_str rfl 47 _ _ rfl g2 #[.slice none 0 0, .bool false] rfl rfl _ _ X2d rfl (tap_size _ _) (one_tap _ _ _ _) ?_; intro w8 hB8 hg8 hy; clear hy; have hB8' := X3d.grown hg8 (by simp; omega); have G8 := range_grown G4 hg8 (by omega) (by omega); obtain ⟨q0, q1, _, _⟩ := two_facts hB8; refine hK.out _ _ ?_ (fun hHeld => ?_); (exact ⟨q0, q1, G8⟩); clear hK K; (try simp only [Act.put, List.setIfInBounds_toArray, List.set_cons_zero, List.set_cons_succ])
  refine reg_only 3 rfl (by kernel_rfl) (fun K hK => ?_); refine step_str rfl 36 _ _ rfl g3 GP.toArray rfl rfl _ _ hB8' hGZ hsaZ honeG.out ?_; intro w9 hB9 hg9 hy; clear hy; have hB9' := hB8.grown hg9 (by simp; omega); have G9 := range_grown G8 hg9 (by have := hg8.size; omega) (by omega); obtain ⟨r0, r1, _, _⟩ := two_facts hB9'; refine hK.out _ _ ?_ (fun hHeld => ?_); (exact ⟨r0, r1, G9⟩); clear hK K; (try simp only [Act.put, List.setIfInBounds_toArray, List.set_cons_zero, List.set_cons_succ])
  refine reg_take (v := ?_) 4 rfl (by kernel_rfl) (by kernel_rfl) (by kernel_rfl) (fun _ _ _ h => h) (Or.inl ⟨by rfl, ?_⟩) (by assumption) ?_; rotate_left; (intro w hSw; (try dsimp only at hSw); go_simp); (try with_reducible rfl); (try simp only [Act.put, List.setIfInBounds_toArray, List.set_cons_zero, List.set_cons_succ])
  refine wpAnyH_done (by kernel_rfl) ?_ _
  have hbf := below_set (below_set (below_drew1 X0.out) hg8 (by omega)) hg9 (by omega)
  go_wp2
  have hres := results_ccs (P := Tryd.prog) (fn := Tryd.f30) (p := 2) (q := 3) (t := 4) rfl
  refine bodyPost_ret (hres _ _ g2 g3 _ _ _ _ rfl rfl hB9' hB9 Tryd.underlying47 Tryd.underlying36 rfl rfl (tap_size _ _) hsaG) rfl ?_
  exact ⟨none, 0, 0, by rw [HGPL.out]; rfl, Fr.nil _ _ _ _, hbf⟩

set_option maxRecDepth 100000 in
set_option maxHeartbeats 4000000 in
theorem poll_cons (A : Option Addr) (n c : Nat) (lost : Bool) (x : It) (l : List It) (ho : ItsOk (x :: l)) (w : World) (hr : Rd w 0 101 A n (itsL (x :: l))) (hn : n ≤ 1000) (hG : GOk w) (hm : itsMay (x :: l) = true) :
    Calls Tryd.prog 30 #[.agg #[.slice A n c, .bool lost]] w (GivesP w (l, lost, x, 0)) := by
  have hszZ := it_size zeroIt zeroIt_ok
  have hsaZ := it_sizeA zeroIt zeroIt_ok
  have hu32 := Tryd.underlying36
  have honeZ := hid (it_one zeroIt)
  have hC := hid (fun W (h : Rd W 0 101 A n (itsL (x :: l))) (k : GOk W) => check_any A n c lost (x :: l) ho W h k)
  have HR := hid hr
  have HG := hid hG
  have hE : Hid (errOf (itsMay (x :: l)) = 0) := hid (by rw [hm]; rfl)
  have hl := rd_len ho hr
  simp only [List.length_cons] at hl
  have hnz : (0 : Int) < (n : Int) := by omega
  have hTw := hid (fun W (h : Rd W 0 101 A n (itsL (x :: l))) => twin_any A n c lost (x :: l) ho W h hn)
  have ox : ItOk x := ho x (by simp)
  have ol : ItsOk l := fun y hy => ho y (by simp [hy])
  have HOL := hid ol
  have HO2 := hid ho
  have hszX := it_size x ox
  have hsaX := it_sizeA x ox
  have hXZ : (itL x).toArray.size = (itL zeroIt).toArray.size := by rw [List.size_toArray, List.size_toArray, itL_len x ox, itL_len zeroIt zeroIt_ok]
  have honeX := hid (it_one x)
  clear hl ol
  clear hr hG
  have hzr : ∀ W, (zeroValue 36).run Tryd.prog W = .ok (.agg (itL zeroIt).toArray) W := zeroI_run
  have HZR := hid hzr
  clear hzr
  generalize hZL : itL zeroIt = Z at *
  have HZL := hid hZL
  clear hZL
  go_enter Tryd.func30, Tryd.ntmps30
  go_upto_region 1 with (first
    | (refine wpList_bx rfl 47 _ rfl #[.slice A n c, .bool lost] rfl ?_; intro w1 hB1 hb1 hy; have hz1 := hid hy; clear hy)
    | ((with_reducible refine at_alloc 47 ?_); refine wpList_al rfl 47 rfl _ (tap_zero _) ?_; intro w2 hB2 hb2 hy; have hz2 := hid hy; clear hy)
    | ((with_reducible refine at_alloc 36 ?_); refine wpList_al rfl 36 rfl _ (HZR.out _) ?_; intro w3 hB3 hb3 hy; have hz3 := hid hy; clear hy))
  have hb03 := below_chain (below_chain hb1 hb2) hb3
  have X1 := hid ((hB1.belowS hb2).belowS hb3)
  have X2 := hid (hB2.belowS hb3)
  have X3 := hid hB3
  have l1 := (hB1.belowS hb2).lt
  have l2 := (hB2.belowS hb3).lt
  have l3 := hB2.lt
  have X0 := hid hb03
  have e1 : w.heap.size < w1.heap.size := by have := hz1.out; omega
  clear hB1 hb1 hz1 hB2 hb2 hz2 hB3 hb3 hz3 hb03
  generalize w1.heap.size = g2 at *
  generalize w2.heap.size = g3 at *
  obtain ⟨a0, a1, a2, a3⟩ := two_facts X1.out
  go_wp2_with fail
  have hCC := hC.out _ (HR.out.below X0.out) (HG.out.below X0.out)
  rw [hE.out] at hCC
  refine hCC.mono ?_
  rintro e w4 ⟨rfl, hb4⟩
  clear hCC a0 a1 a2 a3
  have X1 := hid (X1.out.belowS hb4)
  have X2 := hid (X2.out.belowS hb4)
  have X3 := hid (X3.out.belowS hb4)
  have X0 := hid (below_chain X0.out hb4)
  have l2 : g2 < w4.heap.size := X2.out.lt
  have l4 : g3 < w4.heap.size := X3.out.lt
  obtain ⟨a0, a1, a2, a3⟩ := two_facts X1.out
  go_wp2_with fail
  refine (hTw.out _ (HR.out.below X0.out)).mono ?_
  rintro e w5 ⟨D, d, rfl, hO, hb5⟩
  have X2 := hid (X2.out.belowS hb5)
  have X3 := hid (X3.out.belowS hb5)
  have X0 := hid (below_chain X0.out hb5)
  clear a0 a1 a2 a3 hTw hC HR
  have hcap := hO.cap.1
  simp only [List.length_cons] at hO hcap
  go_upto_region 5 with ((with_reducible refine at_store 47 ?_); refine wpList_str rfl 47 _ _ rfl g2 #[.slice D (l.length + 1) d, .bool lost] rfl rfl _ _ X2.out rfl (tap_size _ _) (one_tap _ _ _ _) ?_; intro w6 hB6 hg6 hy; clear hy)
  have hO6 := hO.grown hg6 (fun g e er => by cases e; have := (hO.row_lt _ er).1; omega)
  have X3 := hid (X3.out.grown hg6 (by simp; omega))
  have X2 := hid hB6
  have X0 := hid (below_set X0.out hg6 (by omega))
  have hw56 := hg6.size
  have hw45 := hb5.size
  have hrd := hO6.rd
  obtain ⟨b, o, rfl, hlo, hrx⟩ := hrd.item HO2.out (k := 0) (x := x) rfl
  rw [Nat.zero_mul, Nat.add_zero] at hrx
  have hbl : b < w6.heap.size := World.block_lt_of_cell? w6 _ (hrx 0 (.bool x.1) rfl)
  have hfr : Hid (Fr w6 w4.heap.size 101 (if d = 1 then some ⟨b, o, none⟩ else some ⟨b, o + 101, none⟩) l.length (itsL l)) := hid (by
    have h1 := hrd.drop (k := 1) (cap := d) (by omega) hcap
    have h2 : (itsL (x :: l)).drop (1 * 101) = itsL l := by
      rw [show itsL (x :: l) = itL x ++ itsL l from rfl, List.drop_left' (by rw [itL_len x ox])]
    rw [h2] at h1
    simp only [Option.map_some, add_lit, Nat.one_mul, Nat.add_sub_cancel] at h1
    refine ⟨h1, fun hp b' o' e => ?_⟩
    obtain ⟨t, cs, hB⟩ := hO6.fr.2 (by omega) b o rfl
    have : b' = b := by split at e <;> (cases e; rfl)
    subst this
    exact ⟨t, cs, hB⟩)
  have X2d := X2.out.drew
  have X3d := X3.out.drew
  obtain ⟨p0, p1, p2, p3⟩ := two_facts X2d
  have hLX : Hid (itL x = itL x) := hid rfl
  generalize hXL : itL x = X at *
  have HXL := hid hXL
  clear hXL
  have RX : w6.drew.rangeAt b o X := (World.rangeAt_drew _ _ _ _).2 hrx
  have hdw : w6.drew.heap.size = w6.heap.size := rfl
  have h1n : (1 : Int) ≤ (l.length : Int) + 1 := by omega
  have h0n : (0 : Int) < (l.length : Int) + 1 := by omega
  have h1d : (l.length : Int) + 1 ≤ (d : Int) := by omega
  have hd1 : (1 : Int) ≤ (d : Int) := by omega
  clear hO hO6 hrd hB6 hg6
  refine wp_region_F_drew 9 (S := (fun w' => w'.cell? ⟨g2, 0, none⟩ = some (.slice (some ⟨b, o, none⟩) (l.length + 1) d) ∧ w'.rangeAt b o X)) (by kernel_rfl) ⟨p0, RX⟩ (fun hHeld => ?_)
  refine regF_take (v := ?_) 0 (by kernel_rfl) (by decide) rfl (by kernel_rfl) (by kernel_rfl) (by kernel_rfl) (fun _ _ _ h => h) (Or.inl ⟨by rfl, ?_⟩) (by assumption) ?_; rotate_left; (intro w hSw; (try dsimp only at hSw); go_simp); (try with_reducible rfl); (try simp only [Act.put, List.setIfInBounds_toArray, List.set_cons_zero, List.set_cons_succ])
  refine regF_take (v := ?_) 1 (by kernel_rfl) (by decide) rfl (by kernel_rfl) (by kernel_rfl) (by kernel_rfl) (fun _ _ _ h => h) (Or.inl ⟨by rfl, ?_⟩) (by assumption) ?_; rotate_left; (intro w hSw; (try dsimp only at hSw); go_simp); (try with_reducible rfl); (try simp only [Act.put, List.setIfInBounds_toArray, List.set_cons_zero, List.set_cons_succ])
  refine regF_take (v := ?_) 2 (by kernel_rfl) (by decide) rfl (by kernel_rfl) (by kernel_rfl) (by kernel_rfl) (fun _ _ _ h => h) (Or.inl ⟨by rfl, ?_⟩) (by assumption) ?_; rotate_left; (intro w hSw; (try dsimp only at hSw); go_simp); (try with_reducible rfl); (try simp only [Act.put, List.setIfInBounds_toArray, List.set_cons_zero, List.set_cons_succ])
  refine regF_take 3 (by kernel_rfl) (by decide) rfl (by kernel_rfl) (by kernel_rfl) (by kernel_rfl) (fun _ _ _ h => h) (yieldsIf_load_mid (by rfl) _ _ rfl _ _ rfl _ _ (by intro w hSw; (try dsimp only at hSw); go_split_ands; assumption) (by assumption) (by rfl) (by assumption)) (by assumption) ?_; (try simp only [Act.put, List.setIfInBounds_toArray, List.set_cons_zero, List.set_cons_succ])
  refine regF_take (v := ?_) 4 (by kernel_rfl) (by decide) rfl (by kernel_rfl) (by kernel_rfl) (by kernel_rfl) (fun _ _ _ h => h) (Or.inl ⟨by rfl, ?_⟩) (by assumption) ?_; rotate_left; (intro w hSw; (try dsimp only at hSw); go_simp); (try with_reducible rfl); (try simp only [Act.put, List.setIfInBounds_toArray, List.set_cons_zero, List.set_cons_succ])
  refine regF_take (v := ?_) 5 (by kernel_rfl) (by decide) rfl (by kernel_rfl) (by kernel_rfl) (by kernel_rfl) (fun _ _ _ h => h) (Or.inl ⟨by rfl, ?_⟩) (by assumption) ?_; rotate_left; (intro w hSw; (try dsimp only at hSw); go_simp); (try with_reducible rfl); (try simp only [Act.put, List.setIfInBounds_toArray, List.set_cons_zero, List.set_cons_succ])
  refine regF_take (v := ?_) 6 (by kernel_rfl) (by decide) rfl (by kernel_rfl) (by kernel_rfl) (by kernel_rfl) (fun _ _ _ h => h) (Or.inl ⟨by rfl, ?_⟩) (by assumption) ?_; rotate_left; (intro w hSw; (try dsimp only at hSw); go_simp); (try with_reducible rfl); (try simp only [Act.put, List.setIfInBounds_toArray, List.set_cons_zero, List.set_cons_succ])
  refine regF_only 7 rfl (by kernel_rfl) (fun K hK => ?_); refine step_str rfl 36 _ _ rfl g3 X.toArray rfl rfl _ _ X3d hXZ hsaZ honeX.out ?_; intro w8 hB8 hg8 hy; clear hy; have hB8' := X2d.grown hg8 (by simp; omega); obtain ⟨q0, q1, q2, q3⟩ := two_facts hB8'; have R8 := range_grown RX hg8 (by rw [hdw]; omega) (by omega); refine hK.out _ _ ?_ (fun hHeld => ?_); (exact ⟨q0, R8⟩); clear hK K; (try simp only [Act.put, List.setIfInBounds_toArray, List.set_cons_zero, List.set_cons_succ])
  refine regF_take (v := ?_) 8 (by kernel_rfl) (by decide) rfl (by kernel_rfl) (by kernel_rfl) (by kernel_rfl) (fun _ _ _ h => h) (Or.inl ⟨by rfl, ?_⟩) (by assumption) ?_; rotate_left; (intro w hSw; (try dsimp only at hSw); go_simp); (try with_reducible rfl); (try simp only [Act.put, List.setIfInBounds_toArray, List.set_cons_zero, List.set_cons_succ])
  refine regF_last 9 rfl rfl (by kernel_rfl) (fun K hK => ?_); go_simp; have hB9' := hB8'.set_ 0 (.slice (if d = 1 then some ⟨b, o, none⟩ else some ⟨b, o + 101, none⟩) l.length (d - 1)); have hg9 : w8.grownBy (w8.setCell ⟨g2, 0, none⟩ (.slice (if d = 1 then some ⟨b, o, none⟩ else some ⟨b, o + 101, none⟩) l.length (d - 1))) (some g2) := grown_set (World.grownBy.refl w8 _) (.inl rfl) _; have hB9 := hB8.grown hg9 (by simp; omega); refine hK.out _ _ (fun _ => ?_); clear hK K; (try simp only [Act.put, List.setIfInBounds_toArray, List.set_cons_zero, List.set_cons_succ])
  refine wpAnyF_done (by kernel_rfl) ?_ _
  have X0 := hid (below_set (below_set (below_drew1 X0.out) hg8 (by omega)) hg9 (by omega))
  have hF7 := (hfr.out.below (below_self_drew w6)).chg (by omega) ((Chg.of_grown hg8).trans (Chg.of_grown hg9) (bad := fun k => k = g2 ∨ k = g3) (fun k e => .inr (Option.some.inj e).symm) (fun k _ e => .inl (Option.some.inj e).symm)) (fun k hk e => by omega)
  have X2 := hid (show Blk _ g2 47 #[.slice (if d = 1 then some ⟨b, o, none⟩ else some ⟨b, o + 101, none⟩) l.length (d - 1), .bool lost] from hB9')
  have X3 := hid hB9
  clear hB9 hB9' hg8 hg9 hB8 hB8' q0 q1 q2 q3 R8 hHeld RX hfr p0 p1 p2 p3 X2d X3d
  generalize hDD : (if d = 1 then some (⟨b, o, none⟩ : Addr) else some (⟨b, o + 101, none⟩ : Addr)) = DD at *
  clear hDD
  generalize w8.setCell ⟨g2, 0, none⟩ (.slice DD l.length (d - 1)) = w4 at *
  go_wp2_with fail
  have X2d := X2.out.drew
  have X3d := X3.out.drew
  obtain ⟨p0, p1, p2, p3⟩ := two_facts X2d
  refine wp_region_held_drew (S := (fun w' => w'.cell? ⟨g2, 0, none⟩ = some (.slice DD l.length (d - 1)) ∧ w'.cell? ⟨g2, 1, none⟩ = some (.bool lost) ∧ w'.rangeAt g3 0 X)) (by kernel_rfl) ⟨p0, p1, X3d.range0⟩ (fun hHeld => ?_)
  refine reg_take (v := ?_) 0 rfl (by kernel_rfl) (by kernel_rfl) (by kernel_rfl) (fun _ _ _ h => h) (Or.inl ⟨by rfl, ?_⟩) (by assumption) ?_; rotate_left; (intro w hSw; (try dsimp only at hSw); go_simp); (try with_reducible rfl); (try simp only [Act.put, List.setIfInBounds_toArray, List.set_cons_zero, List.set_cons_succ])
  refine reg_take 1 rfl (by kernel_rfl) (by kernel_rfl) (by kernel_rfl) (fun _ _ _ h => h) (yieldsIf_load_mid (by rfl) _ _ rfl _ _ rfl _ _ (by intro w hSw; (try dsimp only at hSw); go_split_ands; assumption) (by assumption) (by rfl) (by assumption)) (by assumption) ?_; (try simp only [Act.put, List.setIfInBounds_toArray, List.set_cons_zero, List.set_cons_succ])
  refine reg_only 2 rfl (by kernel_rfl) (fun K hK => ?_); refine step_str rfl 47 _ _ rfl g2 #[.slice DD l.length (d - 1), .bool lost] rfl rfl _ _ X2d rfl (tap_size _ _) (one_tap _ _ _ _) ?_; intro w8 hB8 hg8 hy; clear hy; have hB8' := X3d.grown hg8 (by simp; omega); obtain ⟨q0, q1, _, _⟩ := two_facts hB8; refine hK.out _ _ ?_ (fun hHeld => ?_); (exact ⟨q0, q1, hB8'.range0⟩); clear hK K; (try simp only [Act.put, List.setIfInBounds_toArray, List.set_cons_zero, List.set_cons_succ])
  refine reg_only 3 rfl (by kernel_rfl) (fun K hK => ?_); refine step_str rfl 36 _ _ rfl g3 (List.toArray X) rfl rfl _ _ hB8' rfl hsaX honeX.out ?_; intro w9 hB9 hg9 hy; clear hy; have hB9' := hB8.grown hg9 (by simp; omega); obtain ⟨r0, r1, _, _⟩ := two_facts hB9'; refine hK.out _ _ ?_ (fun hHeld => ?_); (exact ⟨r0, r1, hB9.range0⟩); clear hK K; (try simp only [Act.put, List.setIfInBounds_toArray, List.set_cons_zero, List.set_cons_succ])
  refine reg_take (v := ?_) 4 rfl (by kernel_rfl) (by kernel_rfl) (by kernel_rfl) (fun _ _ _ h => h) (Or.inl ⟨by rfl, ?_⟩) (by assumption) ?_; rotate_left; (intro w hSw; (try dsimp only at hSw); go_simp); (try with_reducible rfl); (try simp only [Act.put, List.setIfInBounds_toArray, List.set_cons_zero, List.set_cons_succ])
  refine wpAnyH_done (by kernel_rfl) ?_ _
  have hbf := below_set (below_set (below_drew1 X0.out) hg8 (by omega)) hg9 (by omega)
  go_wp2
  have hres := results_ccs (P := Tryd.prog) (fn := Tryd.f30) (p := 2) (q := 3) (t := 4) rfl
  refine bodyPost_ret (hres _ _ g2 g3 _ _ _ _ rfl rfl hB9' hB9 Tryd.underlying47 Tryd.underlying36 rfl rfl (tap_size _ _) hsaX) rfl ?_
  have hFf := ((hF7.below (below_self_drew w4)).chg (by omega) ((Chg.of_grown hg8).trans (Chg.of_grown hg9) (bad := fun k => k = g2 ∨ k = g3) (fun k e => .inl (Option.some.inj e).symm) (fun k _ e => .inr (Option.some.inj e).symm)) (fun k hk e => by omega)).low (lo' := w.heap.size) (by omega)
  exact ⟨DD, l.length, d - 1, by rw [HXL.out]; rfl, hFf, hbf⟩
end Go.Proofs.YtmepbokoopgmiaaDoor
