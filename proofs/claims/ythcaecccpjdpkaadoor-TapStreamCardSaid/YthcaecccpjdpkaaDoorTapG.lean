/-
  Contracts of the law's alive and TapNames. No condition beyond those each theorem names.
-/
import Derived.Test.YthcaecccpjdpkaaDoorTapF
import Derived.Test.YthcaecccpjdpkaaDoorRegT
import Derived.Deep.DeepCutAuto
namespace Go.Proofs.YthcaecccpjdpkaaDoor
open Go.RowKit
set_option linter.unusedSimpArgs false
set_option linter.unusedVariables false

theorem ints_rd (w : World) (vs : List Int) (t : TypeId) : Rd (w.alloc (.cells (vs.map (Value.int .i64)).toArray t)) 0 1 (some ⟨w.heap.size, 0, none⟩) vs.length (vs.map (Value.int .i64)) :=
  ((Blk.new w t _).rd (by simp)).low (Nat.zero_le _)

set_option maxRecDepth 100000 in
set_option maxHeartbeats 2000000 in
theorem alive_any (w : World) (hG : GOk w) :
    Calls Tryd.prog 9 #[] w fun e w' => e = .returned (.bool true) ∧ Below w.heap.size w w' := by
  have HG := hid hG
  have hP2 := hid (fun W (h : GOk W) => (show Calls Tryd.prog 6 #[.int .i64 2] W (GivesF W (pushedT 2)) from pushed_any 2 (by decide) W h))
  have hP3 := hid (fun W (h : GOk W) => (show Calls Tryd.prog 6 #[.int .i64 3] W (GivesF W (pushedT 3)) from pushed_any 3 (by decide) W h))
  have ho2 := pushedT_ok 2
  have ho3 := pushedT_ok 3
  have hl2 := pushedT_len 2
  have hl3 := pushedT_len 3
  have hq2 : pollsT (pushedT 2) [1, 2] = true := by kernel_rfl
  have hq3 : pollsT (pushedT 3) [1, 2, -1] = true := by kernel_rfl
  have hK2 := hid (fun A m c W n cw w (hm : m ≤ 1000) hr hv hg => polls_any A m c (pushedT 2).2 (pushedT 2).1 ho2 hm W n cw [1, 2] w hr hv (by have := hv.1; simp at this; omega) hg)
  have hK3 := hid (fun A m c W n cw w (hm : m ≤ 1000) hr hv hg => polls_any A m c (pushedT 3).2 (pushedT 3).1 ho3 hm W n cw [1, 2, -1] w hr hv (by have := hv.1; simp at this; omega) hg)
  have e2 : pollsT ((pushedT 2).1, (pushedT 2).2) [1, 2] = true := hq2
  have e3 : pollsT ((pushedT 3).1, (pushedT 3).2) [1, 2, -1] = true := hq3
  rw [e2] at hK2
  rw [e3] at hK3
  clear hG hq2 hq3 e2 e3
  unfold GivesF at hP2 hP3
  generalize pushedT 2 = p2 at *
  generalize pushedT 3 = p3 at *
  obtain ⟨xs2, l2⟩ := p2
  obtain ⟨xs3, l3⟩ := p3
  simp only at hP2 hP3 hK2 hK3 ho2 ho3 hl2 hl3
  have HO2 := hid ho2
  have HO3 := hid ho3
  go_enter Tryd.func9, Tryd.ntmps9
  go_wp2_with (first
    | ((with_reducible refine (hP2.out _ HG.out).mono ?_); rintro e w1 ⟨D, m, c, rfl, hF1, hb1⟩; have hI1 := hid (show Rd (w1.alloc (.cells #[.int .i64 1, .int .i64 2] 3)) 0 1 (some ⟨w1.heap.size, 0, none⟩) 2 ([1, 2].map (Value.int .i64)) from ints_rd w1 [1, 2] _); have hR1 := hid (hF1.rd0.alloc (.cells #[.int .i64 1, .int .i64 2] 3)); have X1 := hid (below_chain hb1 (below_alloc1 w1 (.cells #[.int .i64 1, .int .i64 2] 3))); have hm1 : m ≤ 1000 := by have := rd_len HO2.out hF1.1; omega)
    | ((with_reducible refine (hK2.out _ _ _ _ _ _ _ hm1 hR1.out hI1.out (HG.out.below X1.out)).mono ?_); rintro e w2 ⟨rfl, hb2⟩; have X2 := hid (below_chain X1.out hb2))
    | ((with_reducible refine (hP3.out _ (HG.out.below X2.out)).mono ?_); rintro e w3 ⟨D', m', c', rfl, hF3, hb3⟩; have hI3 := hid (show Rd (w3.alloc (.cells #[.int .i64 1, .int .i64 2, .int .i64 (-1)] 3)) 0 1 (some ⟨w3.heap.size, 0, none⟩) 3 ([1, 2, -1].map (Value.int .i64)) from ints_rd w3 [1, 2, -1] _); have hR3 := hid (hF3.rd0.alloc (.cells #[.int .i64 1, .int .i64 2, .int .i64 (-1)] 3)); have X3 := hid (below_chain (below_chain X2.out hb3) (below_alloc1 w3 (.cells #[.int .i64 1, .int .i64 2, .int .i64 (-1)] 3))); have hm3 : m' ≤ 1000 := by have := rd_len HO3.out hF3.1; omega)
    | ((with_reducible refine (hK3.out _ _ _ _ _ _ _ hm3 hR3.out hI3.out (HG.out.below X3.out)).mono ?_); rintro e w4 ⟨rfl, hb4⟩; have X4 := hid (below_chain X3.out hb4)))
  go_ret
  exact ⟨rfl, X4.out⟩

theorem poll_lit {xs : List It} {l : Bool} (r : List It × Bool × It × Int) (er : Int) (hp : pollT xs l = r) (he : r.2.2.2 = er) (ho : ItsOk xs) (hl : xs.length ≤ 64) (A : Option Addr) (n c : Nat) (w : World) (hr : Rd w 0 101 A n (itsL xs)) (hG : GOk w) :
    Calls Tryd.prog 5 #[.agg #[.slice A n c, .bool l]] w fun e w' => ∃ D m c, m ≤ 1000 ∧ e = .returned (.tuple #[.agg #[.slice D m c, .bool r.2.1], .agg (itL r.2.2.1).toArray, .int .i64 er]) ∧ Fr w' w.heap.size 101 D m (itsL r.1) ∧ Below w.heap.size w w' := by
  subst hp he
  have hn := rd_len ho hr
  have h1 := pollT_ok ho l
  have h2 := pollT_len xs l
  refine (poll_any A n c l xs ho w hr (by omega) hG).mono ?_
  rintro e w' ⟨D, m, c, rfl, hF, hb⟩
  have h3 := rd_len h1 hF.1
  exact ⟨D, m, c, by omega, rfl, hF, hb⟩
theorem push_lit {xs : List It} {l : Bool} {room : Int} {v : Int} (r : List It × Bool × Int) (er : Int) (hp : pushT xs l room (evN v) = r) (he : r.2.2 = er) (ho : ItsOk xs) (hl : xs.length ≤ 64) (A : Option Addr) (n c : Nat) (w : World) (hr : Rd w 0 101 A n (itsL xs)) (hG : GOk w) :
    Calls Tryd.prog 7 #[.agg #[.slice A n c, .bool l], .int .i64 room, .agg (evL (evN v)).toArray] w fun e w' => ∃ D m c, m ≤ 1000 ∧ e = .returned (.tuple #[.agg #[.slice D m c, .bool r.2.1], .int .i64 er]) ∧ Fr w' w.heap.size 101 D m (itsL r.1) ∧ Below w.heap.size w w' := by
  subst hp he
  have hn := rd_len ho hr
  have h1 := pushT_ok ho l room (evN v) (evN_ok v)
  have h2 := pushT_len xs l room (evN v)
  refine (push_any A n c l xs ho room (evN v) (evN_ok v) w hr (by omega) hG).mono ?_
  rintro e w' ⟨D, m, c, rfl, hF, hb⟩
  have h3 := rd_len h1 hF.1
  exact ⟨D, m, c, by omega, rfl, hF, hb⟩
theorem pushed_lit (n : Nat) (i : Int) (hi : i = n) (hn : n ≤ 1000) (w : World) (hG : GOk w) :
    Calls Tryd.prog 6 #[.int .i64 i] w fun e w' => ∃ D m c, m ≤ 1000 ∧ e = .returned (.agg #[.slice D m c, .bool (pushedT n).2]) ∧ Fr w' w.heap.size 101 D m (itsL (pushedT n).1) ∧ Below w.heap.size w w' := by
  subst hi
  refine (pushed_any n hn w hG).mono ?_
  rintro e w' ⟨D, m, c, rfl, hF, hb⟩
  have h3 := rd_len (pushedT_ok n) hF.1
  have h2 := pushedT_len n
  exact ⟨D, m, c, by omega, rfl, hF, hb⟩
theorem polls_lit {xs : List It} {l : Bool} {vs : List Int} {q : Bool} (hp : pollsT (xs, l) vs = q) (ho : ItsOk xs) (hv : vs.length ≤ 1000) (A : Option Addr) (m c : Nat) (W : Option Addr) (n cw : Nat) (w : World) (hm : m ≤ 1000) (hr : Rd w 0 101 A m (itsL xs)) (hw : Rd w 0 1 W n (vs.map (Value.int .i64))) (hG : GOk w) :
    Calls Tryd.prog 10 #[.agg #[.slice A m c, .bool l], .slice W n cw] w fun e w' => e = .returned (.bool q) ∧ Below w.heap.size w w' := by
  have := polls_any A m c l xs ho hm W n cw vs w hr hw (by have := hw.1; simp at this; omega) hG
  rwa [hp] at this
theorem gap_built (w : World) : (Instr.build 32 #[(0, .bool true)]).run Tryd.prog w = .ok (.agg (itL gapIt).toArray) w := run_build w _ _ _ (by kernel_rfl)
theorem tapL_built (A : Option Addr) (n c : Nat) (w : World) : (Instr.build 24 #[(0, .slice A n c)]).run Tryd.prog w = .ok (.agg #[.slice A n c, .bool false]) w := run_build w _ _ _ (by kernel_rfl)

/-- The taps of the chapter's examples. -/
def nA : List It × Bool × It × Int := pollT (pushedT 3).1 (pushedT 3).2
def nB : List It × Bool × It × Int := pollT nA.1 nA.2.1
def nC : List It × Bool × Int := pushT nB.1 nB.2.1 2 (evN 4)
def nD : List It × Bool × Int := pushT nA.1 nA.2.1 2 (evN 4)
def nG : List It × Bool × Int := pushT nA.1 nA.2.1 65 (evN 4)
def nH : List It × Bool × Int := pushT nA.1 nA.2.1 2 (evN (-1))
theorem nA_e : nA.2.2.2 = 0 := by kernel_rfl
theorem nB_e : nB.2.2.2 = 0 := by kernel_rfl
theorem nC_e : nC.2.2 = 0 := by kernel_rfl
theorem nD_e : nD.2.2 = 0 := by kernel_rfl
theorem nG_e : nG.2.2 = 2 := by kernel_rfl
theorem nH_e : nH.2.2 = 8 := by kernel_rfl
theorem nC_p : pollsT (nC.1, nC.2.1) [-1, 4] = true := by kernel_rfl
theorem nD_p : pollsT (nD.1, nD.2.1) [2, -1] = true := by kernel_rfl
theorem nA_ok : ItsOk nA.1 := pollT_ok (pushedT_ok 3) _
theorem nB_ok : ItsOk nB.1 := pollT_ok nA_ok _
theorem nC_ok : ItsOk nC.1 := pushT_ok nB_ok _ _ _ (evN_ok _)
theorem nD_ok : ItsOk nD.1 := pushT_ok nA_ok _ _ _ (evN_ok _)
theorem nA_it : ItOk nA.2.2.1 := pollT_itok (pushedT_ok 3) _
theorem nB_it : ItOk nB.2.2.1 := pollT_itok nA_ok _
theorem gg_bad : errOf (itsMay [gapIt, gapIt]) = 8 := by kernel_rfl

set_option maxRecDepth 100000 in
set_option maxHeartbeats 4000000 in
theorem names_any (w : World) (hG : GOk w) :
    Calls Tryd.prog 3 #[] w fun e w' => e = .returned (.bool true) ∧ Below w.heap.size w w' := by
  have HG0 := hid hG
  have hAl := hid alive_any
  have hP3 := hid (pushed_lit 3 3 rfl (by decide))
  have hE4 := hid (fun W => evn_any 4 W)
  have hEm := hid (fun W => evn_any (-1) W)
  have hPo1 := hid (poll_lit nA 0 rfl nA_e (pushedT_ok 3) (pushedT_len 3))
  have hPo2 := hid (poll_lit nB 0 rfl nB_e nA_ok (pollT_len _ _))
  have hU1 := hid (push_lit nC 0 rfl nC_e nB_ok (pollT_len _ _))
  have hU2 := hid (push_lit nD 0 rfl nD_e nA_ok (pollT_len _ _))
  have hU3 := hid (push_lit nG 2 rfl nG_e nA_ok (pollT_len _ _))
  have hU4 := hid (push_lit nH 8 rfl nH_e nA_ok (pollT_len _ _))
  have hK1 := hid (polls_lit nC_p nC_ok (by decide))
  have hK2 := hid (polls_lit nD_p nD_ok (by decide))
  have hox1 := nA_it
  have hox2 := nB_it
  have hgg : ItsOk [gapIt, gapIt] := fun x hx => by simp at hx; subst hx; exact gapIt_ok
  have hC := hid (fun A n c l W hr hg => check_lit 8 A n c l [gapIt, gapIt] hgg gg_bad W hr hg)
  have hBS := hid (fun W => bslice_its [gapIt, gapIt] hgg (by simp) (by simp) W #[(0, .agg (itL gapIt).toArray), (1, .agg (itL gapIt).toArray)] rfl)
  have hgL := itsL_len [gapIt, gapIt] hgg
  have hGB := hid gap_built
  have hsz1 := it_sizeA _ hox1
  have hsz2 := it_sizeA _ hox2
  have hZ := it_sizeA zeroIt zeroIt_ok
  have hs1 : (itL nA.2.2.1).toArray.size = (itL zeroIt).toArray.size := by rw [List.size_toArray, List.size_toArray, itL_len _ hox1, itL_len zeroIt zeroIt_ok]
  have hs2 : (itL nB.2.2.1).toArray.size = (itL zeroIt).toArray.size := by rw [List.size_toArray, List.size_toArray, itL_len _ hox2, itL_len zeroIt zeroIt_ok]
  have ho1 := hid (it_one nA.2.2.1)
  have ho2 := hid (it_one nB.2.2.1)
  have hzr : Hid (∀ W, (zeroValue 32).run Tryd.prog W = .ok (.agg (itL zeroIt).toArray) W) := hid zeroI_run
  clear hox1 hox2 hG
  generalize pushedT 3 = p3 at *
  generalize (itL zeroIt).toArray = Z at *
  generalize (itL nA.2.2.1).toArray = X1 at *
  generalize (itL nB.2.2.1).toArray = X2 at *
  generalize (itL gapIt).toArray = G at *
  generalize nA = tA at *
  generalize nB = tB at *
  generalize nC = tC at *
  generalize nD = tD at *
  generalize nG = tG at *
  generalize nH = tH at *
  go_enter Tryd.func3, Tryd.ntmps3
  go_upto_region 2 with (first
    | ((with_reducible refine (hP3.out _ HG0.out).mono ?_); rintro e w1 ⟨D1, m1, c1, hm1, rfl, hF1, hb1⟩; have hR1 := hid hF1.rd0)
    | ((with_reducible refine (hPo1.out _ _ _ _ hR1.out (HG0.out.below hb1)).mono ?_); rintro e w2 ⟨Da, ma, ca, hma, rfl, hFa, hb2⟩)
    | ((with_reducible refine at_alloc (d := some 1) 24 ?_); refine wpList_al rfl 24 rfl _ (tap_zero _) ?_; intro w3 hB3 hb3 hy; clear hy)
    | ((with_reducible refine at_alloc (d := some 2) 32 ?_); refine wpList_al rfl 32 rfl _ (hzr.out _) ?_; intro w4 hB4 hb4 hy; clear hy; have l34 := hB3.lt)
    | ((with_reducible refine at_store 24 ?_); refine wpList_str rfl 24 _ _ rfl w2.heap.size _ rfl rfl _ _ (hB3.belowS hb4) rfl (tap_size _ _) (one_tap _ _ _ _) ?_; intro w5 hB5 hg5 hy; have hz5 := hid hy; clear hy)
    | ((with_reducible refine at_store 32 ?_); refine wpList_str rfl 32 _ _ rfl w3.heap.size X1 rfl rfl _ _ (hB4.grown hg5 (fun e => by have := Option.some.inj e; omega)) hs1 hZ ho1.out ?_; intro w6 hB6 hg6 hy; have hz6 := hid hy; clear hy))
  have hb24 := below_chain hb3 hb4
  have hb25 : Below w2.heap.size w2 w5 := hb24.grown hg5 hb24.size (by intro k e; cases e; exact Nat.le_refl _)
  have hb26 : Below w2.heap.size w2 w6 := hb25.grown hg6 hb25.size (by intro k e; cases e; exact hb3.size)
  have XA := hid (hB5.grown hg6 (fun e => by have := Option.some.inj e; omega))
  have Y0 := hid (below_chain (below_chain hb1 hb2) hb26)
  have RA := hid (hFa.rd0.below hb26)
  have HG := hid (HG0.out.below Y0.out)
  have la := XA.out.lt
  clear hb1 hb2 hF1 hR1 hFa hB3 hb3 hB4 hb4 hB5 hg5 hB6 hg6 hz5 hz6 hb24 hb25 hb26 l34
  generalize w2.heap.size = ga at *
  generalize w3.heap.size = ga2 at *
  obtain ⟨a0, a1, a2, a3⟩ := two_facts XA.out
  go_upto_region 3 with (first
    | ((with_reducible refine (hPo2.out _ _ _ _ RA.out HG.out).mono ?_); rintro e w2 ⟨Db, mb, cb, hmb, rfl, hFb, hb2⟩)
    | ((with_reducible refine at_alloc (d := some 4) 24 ?_); refine wpList_al rfl 24 rfl _ (tap_zero _) ?_; intro w3 hB3 hb3 hy; clear hy)
    | ((with_reducible refine at_alloc (d := some 5) 32 ?_); refine wpList_al rfl 32 rfl _ (hzr.out _) ?_; intro w4 hB4 hb4 hy; clear hy; have l34 := hB3.lt)
    | ((with_reducible refine at_store 24 ?_); refine wpList_str rfl 24 _ _ rfl w2.heap.size _ rfl rfl _ _ (hB3.belowS hb4) rfl (tap_size _ _) (one_tap _ _ _ _) ?_; intro w5 hB5 hg5 hy; have hz5 := hid hy; clear hy)
    | ((with_reducible refine at_store 32 ?_); refine wpList_str rfl 32 _ _ rfl w3.heap.size X2 rfl rfl _ _ (hB4.grown hg5 (fun e => by have := Option.some.inj e; omega)) hs2 hZ ho2.out ?_; intro w6 hB6 hg6 hy; have hz6 := hid hy; clear hy))
  have hb24 := below_chain hb3 hb4
  have hb25 : Below w2.heap.size w2 w5 := hb24.grown hg5 hb24.size (by intro k e; cases e; exact Nat.le_refl _)
  have hb26 : Below w2.heap.size w2 w6 := hb25.grown hg6 hb25.size (by intro k e; cases e; exact hb3.size)
  have XB := hid (hB5.grown hg6 (fun e => by have := Option.some.inj e; omega))
  have Y0 := hid (below_chain (below_chain Y0.out hb2) hb26)
  have XA := hid ((XA.out.belowS hb2).belowS hb26)
  have RA := hid ((RA.out.below hb2).below hb26)
  have RB := hid (hFb.rd0.below hb26)
  have HG := hid (HG0.out.below Y0.out)
  have lb := XB.out.lt
  have la := XA.out.lt
  clear hb2 hFb hB3 hb3 hB4 hb4 hB5 hg5 hB6 hg6 hz5 hz6 hb24 hb25 hb26 l34 a0 a1 a2 a3
  generalize w2.heap.size = gb at *
  generalize w3.heap.size = gb2 at *
  clear hPo1 hPo2 hP3 hs1 hs2 hsz1 hsz2 ho1 ho2 hzr hZ
  generalize w6 = w7 at *
  go_cut [7, 8] (fun st se wx => ∃ D m c g, m ≤ 1000 ∧ st = .pointer (some ⟨g, 0, none⟩) ∧ se = .int .i64 0 ∧ Below w7.heap.size w7 wx ∧ Blk wx g 24 #[.slice D m c, .bool tC.2.1] ∧ Rd wx 0 101 D m (itsL tC.1))
  case first =>
    have XS := XB
    have HRc := RB
    have HGc := HG
    have hgs : gb < w7.heap.size := XB.out.lt
    have hEv := hE4
    have hPu := hid (fun W h k => hU1.out Db mb cb W h k)
    have hdw : w7.drew.heap.size = w7.heap.size := rfl; have XS := hid XS.out.drew; have HRc := hid (HRc.out.below (below_self_drew _)); have HGc := hid (HGc.out.below (below_self_drew _)); have X0c := hid (below_self_drew w7); obtain ⟨s0, s1, _, _⟩ := two_facts XS.out
    refine wp_region_held_drew (S := (fun w' => w'.cell? ⟨gb, 0, none⟩ = some (.slice Db mb cb) ∧ w'.cell? ⟨gb, 1, none⟩ = some (.bool tB.2.1))) (by kernel_rfl) ⟨s0, s1⟩ (fun hHeld => ?_)
    refine reg_take (v := ?_) 0 rfl (by kernel_rfl) (by kernel_rfl) (by kernel_rfl) (fun _ _ _ h => h) (Or.inl ⟨by rfl, ?_⟩) (by assumption) ?_; rotate_left; (intro w hSw; (try dsimp only at hSw); go_simp); (try with_reducible rfl); (try simp only [Act.put, List.setIfInBounds_toArray, List.set_cons_zero, List.set_cons_succ])
    refine reg_two 1 6 rfl rfl (by kernel_rfl) (fun K hK => ?_) (fun K hK => ?_)
    · go_simp; refine (hEv.out _).mono ?_; rintro e wv ⟨rfl, hbv⟩; have XS := hid (XS.out.belowS hbv); have HRc := hid (HRc.out.below hbv); have HGc := hid (HGc.out.below hbv); have X0c := hid (below_chain X0c.out hbv); obtain ⟨s0, s1, _, _⟩ := two_facts XS.out; refine hK.out _ _ ⟨s0, s1⟩ (fun hHeld => ?_); clear hK K; (try simp only [Act.put, List.setIfInBounds_toArray, List.set_cons_zero, List.set_cons_succ])
      refine reg_two 2 6 rfl rfl (by kernel_rfl) (fun K hK => ?_) (fun K hK => ?_)
      · go_simp; refine (hPu.out _ HRc.out HGc.out).mono ?_; rintro e wu ⟨D', m', c', hm', rfl, hFu, hbu⟩; have HF := hid hFu; have XS := hid (XS.out.belowS hbu); have HRc := hid (HRc.out.below hbu); have HGc := hid (HGc.out.below hbu); have X0c := hid (below_chain X0c.out hbu); obtain ⟨s0, s1, _, _⟩ := two_facts XS.out; refine hK.out _ _ ⟨s0, s1⟩ (fun hHeld => ?_); clear hK K; (try simp only [Act.put, List.setIfInBounds_toArray, List.set_cons_zero, List.set_cons_succ])
        refine reg_take (v := ?_) 3 rfl (by kernel_rfl) (by kernel_rfl) (by kernel_rfl) (fun _ _ _ h => h) (Or.inl ⟨by rfl, ?_⟩) (by assumption) ?_; rotate_left; (intro w hSw; (try dsimp only at hSw); go_simp); (try with_reducible rfl); (try simp only [Act.put, List.setIfInBounds_toArray, List.set_cons_zero, List.set_cons_succ])
        refine reg_take (v := ?_) 4 rfl (by kernel_rfl) (by kernel_rfl) (by kernel_rfl) (fun _ _ _ h => h) (Or.inl ⟨by rfl, ?_⟩) (by assumption) ?_; rotate_left; (intro w hSw; (try dsimp only at hSw); go_simp); (try with_reducible rfl); (try simp only [Act.put, List.setIfInBounds_toArray, List.set_cons_zero, List.set_cons_succ])
        refine reg_take (v := ?_) 5 rfl (by kernel_rfl) (by kernel_rfl) (by kernel_rfl) (fun _ _ _ h => h) (Or.inl ⟨by rfl, ?_⟩) (by assumption) ?_; rotate_left; (intro w hSw; (try dsimp only at hSw); go_simp); (try with_reducible rfl); (try simp only [Act.put, List.setIfInBounds_toArray, List.set_cons_zero, List.set_cons_succ])
        refine reg_only 6 rfl (by kernel_rfl) (fun K hK => ?_); refine step_al rfl 24 rfl _ (tap_zero _) ?_; intro wa hBa hba hy; clear hy; have HN := hid ((RdN.of_lt HF.out.rd0 (Nat.le_refl _)).below hba); have hgB := hid X0c.out.size; have XS := hid (XS.out.belowS hba); have HRc := hid (HRc.out.below hba); have HGc := hid (HGc.out.below hba); have X0c := hid (below_chain X0c.out hba); have XB := hid hBa; obtain ⟨s0, s1, _, _⟩ := two_facts XS.out; refine hK.out _ _ ⟨s0, s1⟩ (fun hHeld => ?_); clear hK K; (try simp only [Act.put, List.setIfInBounds_toArray, List.set_cons_zero, List.set_cons_succ])
        refine reg_only 7 rfl (by kernel_rfl) (fun K hK => ?_); refine step_str rfl 24 _ _ rfl _ _ rfl rfl _ _ XB.out rfl (tap_size _ _) (one_tap _ _ _ _) ?_; intro ws hBs hgs' hy; clear hy; have hgB' := hgB.out; have XS := hid (XS.out.grown hgs' (fun e => by have := Option.some.inj e; omega)); have X0c := hid (below_set X0c.out hgs' hgB'); have HN := hid (HN.out.grown hgs'); have XB := hid hBs; obtain ⟨s0, s1, _, _⟩ := two_facts XS.out; refine hK.out _ _ ⟨s0, s1⟩ (fun hHeld => ?_); clear hK K; (try simp only [Act.put, List.setIfInBounds_toArray, List.set_cons_zero, List.set_cons_succ])
        refine reg_take (v := ?_) 8 rfl (by kernel_rfl) (by kernel_rfl) (by kernel_rfl) (fun _ _ _ h => h) (Or.inl ⟨by rfl, ?_⟩) (by assumption) ?_; rotate_left; (intro w hSw; (try dsimp only at hSw); go_simp); (try with_reducible rfl); (try simp only [Act.put, List.setIfInBounds_toArray, List.set_cons_zero, List.set_cons_succ])
        refine wpAnyH_done (by kernel_rfl) ?_ _
        go_wp2_with fail
        go_meet
        exact ⟨_, _, _, _, hm', rfl, rfl, X0c.out, XB.out, HN.out.1⟩
      · refine step_al rfl 24 rfl _ (tap_zero _) ?_; intro wa hBa hba hy; clear hy; have hgB := hid X0c.out.size; have XS := hid (XS.out.belowS hba); have HRc := hid (HRc.out.below hba); have HGc := hid (HGc.out.below hba); have X0c := hid (below_chain X0c.out hba); have XB := hid hBa; obtain ⟨s0, s1, _, _⟩ := two_facts XS.out; refine hK.out _ _ ⟨s0, s1⟩ (fun hHeld => ?_); clear hK K; (try simp only [Act.put, List.setIfInBounds_toArray, List.set_cons_zero, List.set_cons_succ])
        refine reg_only 2 rfl (by kernel_rfl) (fun K hK => ?_); go_simp; refine (hPu.out _ HRc.out HGc.out).mono ?_; rintro e wu ⟨D', m', c', hm', rfl, hFu, hbu⟩; have HF := hid hFu; have HN := hid (RdN.of_fr hFu.1 XB.out.lt); have XS := hid (XS.out.belowS hbu); have HRc := hid (HRc.out.below hbu); have HGc := hid (HGc.out.below hbu); have X0c := hid (below_chain X0c.out hbu); have XB := hid (XB.out.belowS hbu); obtain ⟨s0, s1, _, _⟩ := two_facts XS.out; refine hK.out _ _ ⟨s0, s1⟩ (fun hHeld => ?_); clear hK K; (try simp only [Act.put, List.setIfInBounds_toArray, List.set_cons_zero, List.set_cons_succ])
        refine reg_take (v := ?_) 3 rfl (by kernel_rfl) (by kernel_rfl) (by kernel_rfl) (fun _ _ _ h => h) (Or.inl ⟨by rfl, ?_⟩) (by assumption) ?_; rotate_left; (intro w hSw; (try dsimp only at hSw); go_simp); (try with_reducible rfl); (try simp only [Act.put, List.setIfInBounds_toArray, List.set_cons_zero, List.set_cons_succ])
        refine reg_take (v := ?_) 4 rfl (by kernel_rfl) (by kernel_rfl) (by kernel_rfl) (fun _ _ _ h => h) (Or.inl ⟨by rfl, ?_⟩) (by assumption) ?_; rotate_left; (intro w hSw; (try dsimp only at hSw); go_simp); (try with_reducible rfl); (try simp only [Act.put, List.setIfInBounds_toArray, List.set_cons_zero, List.set_cons_succ])
        refine reg_take (v := ?_) 5 rfl (by kernel_rfl) (by kernel_rfl) (by kernel_rfl) (fun _ _ _ h => h) (Or.inl ⟨by rfl, ?_⟩) (by assumption) ?_; rotate_left; (intro w hSw; (try dsimp only at hSw); go_simp); (try with_reducible rfl); (try simp only [Act.put, List.setIfInBounds_toArray, List.set_cons_zero, List.set_cons_succ])
        refine reg_only 7 rfl (by kernel_rfl) (fun K hK => ?_); refine step_str rfl 24 _ _ rfl _ _ rfl rfl _ _ XB.out rfl (tap_size _ _) (one_tap _ _ _ _) ?_; intro ws hBs hgs' hy; clear hy; have hgB' := hgB.out; have XS := hid (XS.out.grown hgs' (fun e => by have := Option.some.inj e; omega)); have X0c := hid (below_set X0c.out hgs' hgB'); have HN := hid (HN.out.grown hgs'); have XB := hid hBs; obtain ⟨s0, s1, _, _⟩ := two_facts XS.out; refine hK.out _ _ ⟨s0, s1⟩ (fun hHeld => ?_); clear hK K; (try simp only [Act.put, List.setIfInBounds_toArray, List.set_cons_zero, List.set_cons_succ])
        refine reg_take (v := ?_) 8 rfl (by kernel_rfl) (by kernel_rfl) (by kernel_rfl) (fun _ _ _ h => h) (Or.inl ⟨by rfl, ?_⟩) (by assumption) ?_; rotate_left; (intro w hSw; (try dsimp only at hSw); go_simp); (try with_reducible rfl); (try simp only [Act.put, List.setIfInBounds_toArray, List.set_cons_zero, List.set_cons_succ])
        refine wpAnyH_done (by kernel_rfl) ?_ _
        go_wp2_with fail
        go_meet
        exact ⟨_, _, _, _, hm', rfl, rfl, X0c.out, XB.out, HN.out.1⟩
    · refine step_al rfl 24 rfl _ (tap_zero _) ?_; intro wa hBa hba hy; clear hy; have hgB := hid X0c.out.size; have XS := hid (XS.out.belowS hba); have HRc := hid (HRc.out.below hba); have HGc := hid (HGc.out.below hba); have X0c := hid (below_chain X0c.out hba); have XB := hid hBa; obtain ⟨s0, s1, _, _⟩ := two_facts XS.out; refine hK.out _ _ ⟨s0, s1⟩ (fun hHeld => ?_); clear hK K; (try simp only [Act.put, List.setIfInBounds_toArray, List.set_cons_zero, List.set_cons_succ])
      refine reg_only 1 rfl (by kernel_rfl) (fun K hK => ?_); go_simp; refine (hEv.out _).mono ?_; rintro e wv ⟨rfl, hbv⟩; have XS := hid (XS.out.belowS hbv); have HRc := hid (HRc.out.below hbv); have HGc := hid (HGc.out.below hbv); have X0c := hid (below_chain X0c.out hbv); have XB := hid (XB.out.belowS hbv); obtain ⟨s0, s1, _, _⟩ := two_facts XS.out; refine hK.out _ _ ⟨s0, s1⟩ (fun hHeld => ?_); clear hK K; (try simp only [Act.put, List.setIfInBounds_toArray, List.set_cons_zero, List.set_cons_succ])
      refine reg_only 2 rfl (by kernel_rfl) (fun K hK => ?_); go_simp; refine (hPu.out _ HRc.out HGc.out).mono ?_; rintro e wu ⟨D', m', c', hm', rfl, hFu, hbu⟩; have HF := hid hFu; have HN := hid (RdN.of_fr hFu.1 XB.out.lt); have XS := hid (XS.out.belowS hbu); have HRc := hid (HRc.out.below hbu); have HGc := hid (HGc.out.below hbu); have X0c := hid (below_chain X0c.out hbu); have XB := hid (XB.out.belowS hbu); obtain ⟨s0, s1, _, _⟩ := two_facts XS.out; refine hK.out _ _ ⟨s0, s1⟩ (fun hHeld => ?_); clear hK K; (try simp only [Act.put, List.setIfInBounds_toArray, List.set_cons_zero, List.set_cons_succ])
      refine reg_take (v := ?_) 3 rfl (by kernel_rfl) (by kernel_rfl) (by kernel_rfl) (fun _ _ _ h => h) (Or.inl ⟨by rfl, ?_⟩) (by assumption) ?_; rotate_left; (intro w hSw; (try dsimp only at hSw); go_simp); (try with_reducible rfl); (try simp only [Act.put, List.setIfInBounds_toArray, List.set_cons_zero, List.set_cons_succ])
      refine reg_take (v := ?_) 4 rfl (by kernel_rfl) (by kernel_rfl) (by kernel_rfl) (fun _ _ _ h => h) (Or.inl ⟨by rfl, ?_⟩) (by assumption) ?_; rotate_left; (intro w hSw; (try dsimp only at hSw); go_simp); (try with_reducible rfl); (try simp only [Act.put, List.setIfInBounds_toArray, List.set_cons_zero, List.set_cons_succ])
      refine reg_take (v := ?_) 5 rfl (by kernel_rfl) (by kernel_rfl) (by kernel_rfl) (fun _ _ _ h => h) (Or.inl ⟨by rfl, ?_⟩) (by assumption) ?_; rotate_left; (intro w hSw; (try dsimp only at hSw); go_simp); (try with_reducible rfl); (try simp only [Act.put, List.setIfInBounds_toArray, List.set_cons_zero, List.set_cons_succ])
      refine reg_only 7 rfl (by kernel_rfl) (fun K hK => ?_); refine step_str rfl 24 _ _ rfl _ _ rfl rfl _ _ XB.out rfl (tap_size _ _) (one_tap _ _ _ _) ?_; intro ws hBs hgs' hy; clear hy; have hgB' := hgB.out; have XS := hid (XS.out.grown hgs' (fun e => by have := Option.some.inj e; omega)); have X0c := hid (below_set X0c.out hgs' hgB'); have HN := hid (HN.out.grown hgs'); have XB := hid hBs; obtain ⟨s0, s1, _, _⟩ := two_facts XS.out; refine hK.out _ _ ⟨s0, s1⟩ (fun hHeld => ?_); clear hK K; (try simp only [Act.put, List.setIfInBounds_toArray, List.set_cons_zero, List.set_cons_succ])
      refine reg_take (v := ?_) 8 rfl (by kernel_rfl) (by kernel_rfl) (by kernel_rfl) (fun _ _ _ h => h) (Or.inl ⟨by rfl, ?_⟩) (by assumption) ?_; rotate_left; (intro w hSw; (try dsimp only at hSw); go_simp); (try with_reducible rfl); (try simp only [Act.put, List.setIfInBounds_toArray, List.set_cons_zero, List.set_cons_succ])
      refine wpAnyH_done (by kernel_rfl) ?_ _
      go_wp2_with fail
      go_meet
      exact ⟨_, _, _, _, hm', rfl, rfl, X0c.out, XB.out, HN.out.1⟩
  obtain ⟨Dc, mc, cc, gc, hmc, rfl, rfl, hbc, hBc, hRc⟩ := hcut
  generalize wc = w8 at *
  have Y0 := hid (below_chain Y0.out hbc)
  have HG := hid (HG0.out.below Y0.out)
  have Xc := hid hBc
  have Rc := hid hRc
  have XA := hid (XA.out.belowS hbc)
  have RA := hid (RA.out.below hbc)
  clear hbc hBc hRc
  have la := XA.out.lt
  go_wp2_with fail
  go_cut [9, 10] (fun st se wx => ∃ D m c g, m ≤ 1000 ∧ st = .pointer (some ⟨g, 0, none⟩) ∧ se = .int .i64 0 ∧ Below w8.heap.size w8 wx ∧ Blk wx g 24 #[.slice D m c, .bool tD.2.1] ∧ Rd wx 0 101 D m (itsL tD.1))
  case first =>
    have XS := XA
    have HRc := RA
    have HGc := HG
    have hgs : ga < w8.heap.size := XA.out.lt
    have hEv := hE4
    have hPu := hid (fun W h k => hU2.out Da ma ca W h k)
    have hdw : w8.drew.heap.size = w8.heap.size := rfl; have XS := hid XS.out.drew; have HRc := hid (HRc.out.below (below_self_drew _)); have HGc := hid (HGc.out.below (below_self_drew _)); have X0c := hid (below_self_drew w8); obtain ⟨s0, s1, _, _⟩ := two_facts XS.out
    refine wp_region_held_drew (S := (fun w' => w'.cell? ⟨ga, 0, none⟩ = some (.slice Da ma ca) ∧ w'.cell? ⟨ga, 1, none⟩ = some (.bool tA.2.1))) (by kernel_rfl) ⟨s0, s1⟩ (fun hHeld => ?_)
    refine reg_take (v := ?_) 0 rfl (by kernel_rfl) (by kernel_rfl) (by kernel_rfl) (fun _ _ _ h => h) (Or.inl ⟨by rfl, ?_⟩) (by assumption) ?_; rotate_left; (intro w hSw; (try dsimp only at hSw); go_simp); (try with_reducible rfl); (try simp only [Act.put, List.setIfInBounds_toArray, List.set_cons_zero, List.set_cons_succ])
    refine reg_two 1 6 rfl rfl (by kernel_rfl) (fun K hK => ?_) (fun K hK => ?_)
    · go_simp; refine (hEv.out _).mono ?_; rintro e wv ⟨rfl, hbv⟩; have XS := hid (XS.out.belowS hbv); have HRc := hid (HRc.out.below hbv); have HGc := hid (HGc.out.below hbv); have X0c := hid (below_chain X0c.out hbv); obtain ⟨s0, s1, _, _⟩ := two_facts XS.out; refine hK.out _ _ ⟨s0, s1⟩ (fun hHeld => ?_); clear hK K; (try simp only [Act.put, List.setIfInBounds_toArray, List.set_cons_zero, List.set_cons_succ])
      refine reg_two 2 6 rfl rfl (by kernel_rfl) (fun K hK => ?_) (fun K hK => ?_)
      · go_simp; refine (hPu.out _ HRc.out HGc.out).mono ?_; rintro e wu ⟨D', m', c', hm', rfl, hFu, hbu⟩; have HF := hid hFu; have XS := hid (XS.out.belowS hbu); have HRc := hid (HRc.out.below hbu); have HGc := hid (HGc.out.below hbu); have X0c := hid (below_chain X0c.out hbu); obtain ⟨s0, s1, _, _⟩ := two_facts XS.out; refine hK.out _ _ ⟨s0, s1⟩ (fun hHeld => ?_); clear hK K; (try simp only [Act.put, List.setIfInBounds_toArray, List.set_cons_zero, List.set_cons_succ])
        refine reg_take (v := ?_) 3 rfl (by kernel_rfl) (by kernel_rfl) (by kernel_rfl) (fun _ _ _ h => h) (Or.inl ⟨by rfl, ?_⟩) (by assumption) ?_; rotate_left; (intro w hSw; (try dsimp only at hSw); go_simp); (try with_reducible rfl); (try simp only [Act.put, List.setIfInBounds_toArray, List.set_cons_zero, List.set_cons_succ])
        refine reg_take (v := ?_) 4 rfl (by kernel_rfl) (by kernel_rfl) (by kernel_rfl) (fun _ _ _ h => h) (Or.inl ⟨by rfl, ?_⟩) (by assumption) ?_; rotate_left; (intro w hSw; (try dsimp only at hSw); go_simp); (try with_reducible rfl); (try simp only [Act.put, List.setIfInBounds_toArray, List.set_cons_zero, List.set_cons_succ])
        refine reg_take (v := ?_) 5 rfl (by kernel_rfl) (by kernel_rfl) (by kernel_rfl) (fun _ _ _ h => h) (Or.inl ⟨by rfl, ?_⟩) (by assumption) ?_; rotate_left; (intro w hSw; (try dsimp only at hSw); go_simp); (try with_reducible rfl); (try simp only [Act.put, List.setIfInBounds_toArray, List.set_cons_zero, List.set_cons_succ])
        refine reg_only 6 rfl (by kernel_rfl) (fun K hK => ?_); refine step_al rfl 24 rfl _ (tap_zero _) ?_; intro wa hBa hba hy; clear hy; have HN := hid ((RdN.of_lt HF.out.rd0 (Nat.le_refl _)).below hba); have hgB := hid X0c.out.size; have XS := hid (XS.out.belowS hba); have HRc := hid (HRc.out.below hba); have HGc := hid (HGc.out.below hba); have X0c := hid (below_chain X0c.out hba); have XB := hid hBa; obtain ⟨s0, s1, _, _⟩ := two_facts XS.out; refine hK.out _ _ ⟨s0, s1⟩ (fun hHeld => ?_); clear hK K; (try simp only [Act.put, List.setIfInBounds_toArray, List.set_cons_zero, List.set_cons_succ])
        refine reg_only 7 rfl (by kernel_rfl) (fun K hK => ?_); refine step_str rfl 24 _ _ rfl _ _ rfl rfl _ _ XB.out rfl (tap_size _ _) (one_tap _ _ _ _) ?_; intro ws hBs hgs' hy; clear hy; have hgB' := hgB.out; have XS := hid (XS.out.grown hgs' (fun e => by have := Option.some.inj e; omega)); have X0c := hid (below_set X0c.out hgs' hgB'); have HN := hid (HN.out.grown hgs'); have XB := hid hBs; obtain ⟨s0, s1, _, _⟩ := two_facts XS.out; refine hK.out _ _ ⟨s0, s1⟩ (fun hHeld => ?_); clear hK K; (try simp only [Act.put, List.setIfInBounds_toArray, List.set_cons_zero, List.set_cons_succ])
        refine reg_take (v := ?_) 8 rfl (by kernel_rfl) (by kernel_rfl) (by kernel_rfl) (fun _ _ _ h => h) (Or.inl ⟨by rfl, ?_⟩) (by assumption) ?_; rotate_left; (intro w hSw; (try dsimp only at hSw); go_simp); (try with_reducible rfl); (try simp only [Act.put, List.setIfInBounds_toArray, List.set_cons_zero, List.set_cons_succ])
        refine wpAnyH_done (by kernel_rfl) ?_ _
        go_wp2_with fail
        go_meet
        exact ⟨_, _, _, _, hm', rfl, rfl, X0c.out, XB.out, HN.out.1⟩
      · refine step_al rfl 24 rfl _ (tap_zero _) ?_; intro wa hBa hba hy; clear hy; have hgB := hid X0c.out.size; have XS := hid (XS.out.belowS hba); have HRc := hid (HRc.out.below hba); have HGc := hid (HGc.out.below hba); have X0c := hid (below_chain X0c.out hba); have XB := hid hBa; obtain ⟨s0, s1, _, _⟩ := two_facts XS.out; refine hK.out _ _ ⟨s0, s1⟩ (fun hHeld => ?_); clear hK K; (try simp only [Act.put, List.setIfInBounds_toArray, List.set_cons_zero, List.set_cons_succ])
        refine reg_only 2 rfl (by kernel_rfl) (fun K hK => ?_); go_simp; refine (hPu.out _ HRc.out HGc.out).mono ?_; rintro e wu ⟨D', m', c', hm', rfl, hFu, hbu⟩; have HF := hid hFu; have HN := hid (RdN.of_fr hFu.1 XB.out.lt); have XS := hid (XS.out.belowS hbu); have HRc := hid (HRc.out.below hbu); have HGc := hid (HGc.out.below hbu); have X0c := hid (below_chain X0c.out hbu); have XB := hid (XB.out.belowS hbu); obtain ⟨s0, s1, _, _⟩ := two_facts XS.out; refine hK.out _ _ ⟨s0, s1⟩ (fun hHeld => ?_); clear hK K; (try simp only [Act.put, List.setIfInBounds_toArray, List.set_cons_zero, List.set_cons_succ])
        refine reg_take (v := ?_) 3 rfl (by kernel_rfl) (by kernel_rfl) (by kernel_rfl) (fun _ _ _ h => h) (Or.inl ⟨by rfl, ?_⟩) (by assumption) ?_; rotate_left; (intro w hSw; (try dsimp only at hSw); go_simp); (try with_reducible rfl); (try simp only [Act.put, List.setIfInBounds_toArray, List.set_cons_zero, List.set_cons_succ])
        refine reg_take (v := ?_) 4 rfl (by kernel_rfl) (by kernel_rfl) (by kernel_rfl) (fun _ _ _ h => h) (Or.inl ⟨by rfl, ?_⟩) (by assumption) ?_; rotate_left; (intro w hSw; (try dsimp only at hSw); go_simp); (try with_reducible rfl); (try simp only [Act.put, List.setIfInBounds_toArray, List.set_cons_zero, List.set_cons_succ])
        refine reg_take (v := ?_) 5 rfl (by kernel_rfl) (by kernel_rfl) (by kernel_rfl) (fun _ _ _ h => h) (Or.inl ⟨by rfl, ?_⟩) (by assumption) ?_; rotate_left; (intro w hSw; (try dsimp only at hSw); go_simp); (try with_reducible rfl); (try simp only [Act.put, List.setIfInBounds_toArray, List.set_cons_zero, List.set_cons_succ])
        refine reg_only 7 rfl (by kernel_rfl) (fun K hK => ?_); refine step_str rfl 24 _ _ rfl _ _ rfl rfl _ _ XB.out rfl (tap_size _ _) (one_tap _ _ _ _) ?_; intro ws hBs hgs' hy; clear hy; have hgB' := hgB.out; have XS := hid (XS.out.grown hgs' (fun e => by have := Option.some.inj e; omega)); have X0c := hid (below_set X0c.out hgs' hgB'); have HN := hid (HN.out.grown hgs'); have XB := hid hBs; obtain ⟨s0, s1, _, _⟩ := two_facts XS.out; refine hK.out _ _ ⟨s0, s1⟩ (fun hHeld => ?_); clear hK K; (try simp only [Act.put, List.setIfInBounds_toArray, List.set_cons_zero, List.set_cons_succ])
        refine reg_take (v := ?_) 8 rfl (by kernel_rfl) (by kernel_rfl) (by kernel_rfl) (fun _ _ _ h => h) (Or.inl ⟨by rfl, ?_⟩) (by assumption) ?_; rotate_left; (intro w hSw; (try dsimp only at hSw); go_simp); (try with_reducible rfl); (try simp only [Act.put, List.setIfInBounds_toArray, List.set_cons_zero, List.set_cons_succ])
        refine wpAnyH_done (by kernel_rfl) ?_ _
        go_wp2_with fail
        go_meet
        exact ⟨_, _, _, _, hm', rfl, rfl, X0c.out, XB.out, HN.out.1⟩
    · refine step_al rfl 24 rfl _ (tap_zero _) ?_; intro wa hBa hba hy; clear hy; have hgB := hid X0c.out.size; have XS := hid (XS.out.belowS hba); have HRc := hid (HRc.out.below hba); have HGc := hid (HGc.out.below hba); have X0c := hid (below_chain X0c.out hba); have XB := hid hBa; obtain ⟨s0, s1, _, _⟩ := two_facts XS.out; refine hK.out _ _ ⟨s0, s1⟩ (fun hHeld => ?_); clear hK K; (try simp only [Act.put, List.setIfInBounds_toArray, List.set_cons_zero, List.set_cons_succ])
      refine reg_only 1 rfl (by kernel_rfl) (fun K hK => ?_); go_simp; refine (hEv.out _).mono ?_; rintro e wv ⟨rfl, hbv⟩; have XS := hid (XS.out.belowS hbv); have HRc := hid (HRc.out.below hbv); have HGc := hid (HGc.out.below hbv); have X0c := hid (below_chain X0c.out hbv); have XB := hid (XB.out.belowS hbv); obtain ⟨s0, s1, _, _⟩ := two_facts XS.out; refine hK.out _ _ ⟨s0, s1⟩ (fun hHeld => ?_); clear hK K; (try simp only [Act.put, List.setIfInBounds_toArray, List.set_cons_zero, List.set_cons_succ])
      refine reg_only 2 rfl (by kernel_rfl) (fun K hK => ?_); go_simp; refine (hPu.out _ HRc.out HGc.out).mono ?_; rintro e wu ⟨D', m', c', hm', rfl, hFu, hbu⟩; have HF := hid hFu; have HN := hid (RdN.of_fr hFu.1 XB.out.lt); have XS := hid (XS.out.belowS hbu); have HRc := hid (HRc.out.below hbu); have HGc := hid (HGc.out.below hbu); have X0c := hid (below_chain X0c.out hbu); have XB := hid (XB.out.belowS hbu); obtain ⟨s0, s1, _, _⟩ := two_facts XS.out; refine hK.out _ _ ⟨s0, s1⟩ (fun hHeld => ?_); clear hK K; (try simp only [Act.put, List.setIfInBounds_toArray, List.set_cons_zero, List.set_cons_succ])
      refine reg_take (v := ?_) 3 rfl (by kernel_rfl) (by kernel_rfl) (by kernel_rfl) (fun _ _ _ h => h) (Or.inl ⟨by rfl, ?_⟩) (by assumption) ?_; rotate_left; (intro w hSw; (try dsimp only at hSw); go_simp); (try with_reducible rfl); (try simp only [Act.put, List.setIfInBounds_toArray, List.set_cons_zero, List.set_cons_succ])
      refine reg_take (v := ?_) 4 rfl (by kernel_rfl) (by kernel_rfl) (by kernel_rfl) (fun _ _ _ h => h) (Or.inl ⟨by rfl, ?_⟩) (by assumption) ?_; rotate_left; (intro w hSw; (try dsimp only at hSw); go_simp); (try with_reducible rfl); (try simp only [Act.put, List.setIfInBounds_toArray, List.set_cons_zero, List.set_cons_succ])
      refine reg_take (v := ?_) 5 rfl (by kernel_rfl) (by kernel_rfl) (by kernel_rfl) (fun _ _ _ h => h) (Or.inl ⟨by rfl, ?_⟩) (by assumption) ?_; rotate_left; (intro w hSw; (try dsimp only at hSw); go_simp); (try with_reducible rfl); (try simp only [Act.put, List.setIfInBounds_toArray, List.set_cons_zero, List.set_cons_succ])
      refine reg_only 7 rfl (by kernel_rfl) (fun K hK => ?_); refine step_str rfl 24 _ _ rfl _ _ rfl rfl _ _ XB.out rfl (tap_size _ _) (one_tap _ _ _ _) ?_; intro ws hBs hgs' hy; clear hy; have hgB' := hgB.out; have XS := hid (XS.out.grown hgs' (fun e => by have := Option.some.inj e; omega)); have X0c := hid (below_set X0c.out hgs' hgB'); have HN := hid (HN.out.grown hgs'); have XB := hid hBs; obtain ⟨s0, s1, _, _⟩ := two_facts XS.out; refine hK.out _ _ ⟨s0, s1⟩ (fun hHeld => ?_); clear hK K; (try simp only [Act.put, List.setIfInBounds_toArray, List.set_cons_zero, List.set_cons_succ])
      refine reg_take (v := ?_) 8 rfl (by kernel_rfl) (by kernel_rfl) (by kernel_rfl) (fun _ _ _ h => h) (Or.inl ⟨by rfl, ?_⟩) (by assumption) ?_; rotate_left; (intro w hSw; (try dsimp only at hSw); go_simp); (try with_reducible rfl); (try simp only [Act.put, List.setIfInBounds_toArray, List.set_cons_zero, List.set_cons_succ])
      refine wpAnyH_done (by kernel_rfl) ?_ _
      go_wp2_with fail
      go_meet
      exact ⟨_, _, _, _, hm', rfl, rfl, X0c.out, XB.out, HN.out.1⟩
  obtain ⟨Dj, mj, cj, gj, hmj, rfl, rfl, hbj, hBj, hRj⟩ := hcut
  generalize wc = w9 at *
  have Y0 := hid (below_chain Y0.out hbj)
  have HG := hid (HG0.out.below Y0.out)
  have Xj := hid hBj
  have Rj := hid hRj
  have XA := hid (XA.out.belowS hbj)
  have RA := hid (RA.out.below hbj)
  have Xc := hid (Xc.out.belowS hbj)
  have Rc := hid (Rc.out.below hbj)
  clear hbj hBj hRj
  have la := XA.out.lt
  go_wp2_with fail
  go_cut [11, 12] (fun st se wx => ∃ D m c g, m ≤ 1000 ∧ st = .pointer (some ⟨g, 0, none⟩) ∧ se = .int .i64 2 ∧ Below w9.heap.size w9 wx ∧ Blk wx g 24 #[.slice D m c, .bool tG.2.1] ∧ Rd wx 0 101 D m (itsL tG.1))
  case first =>
    have XS := XA
    have HRc := RA
    have HGc := HG
    have hgs : ga < w9.heap.size := XA.out.lt
    have hEv := hE4
    have hPu := hid (fun W h k => hU3.out Da ma ca W h k)
    have hdw : w9.drew.heap.size = w9.heap.size := rfl; have XS := hid XS.out.drew; have HRc := hid (HRc.out.below (below_self_drew _)); have HGc := hid (HGc.out.below (below_self_drew _)); have X0c := hid (below_self_drew w9); obtain ⟨s0, s1, _, _⟩ := two_facts XS.out
    refine wp_region_held_drew (S := (fun w' => w'.cell? ⟨ga, 0, none⟩ = some (.slice Da ma ca) ∧ w'.cell? ⟨ga, 1, none⟩ = some (.bool tA.2.1))) (by kernel_rfl) ⟨s0, s1⟩ (fun hHeld => ?_)
    refine reg_take (v := ?_) 0 rfl (by kernel_rfl) (by kernel_rfl) (by kernel_rfl) (fun _ _ _ h => h) (Or.inl ⟨by rfl, ?_⟩) (by assumption) ?_; rotate_left; (intro w hSw; (try dsimp only at hSw); go_simp); (try with_reducible rfl); (try simp only [Act.put, List.setIfInBounds_toArray, List.set_cons_zero, List.set_cons_succ])
    refine reg_two 1 6 rfl rfl (by kernel_rfl) (fun K hK => ?_) (fun K hK => ?_)
    · go_simp; refine (hEv.out _).mono ?_; rintro e wv ⟨rfl, hbv⟩; have XS := hid (XS.out.belowS hbv); have HRc := hid (HRc.out.below hbv); have HGc := hid (HGc.out.below hbv); have X0c := hid (below_chain X0c.out hbv); obtain ⟨s0, s1, _, _⟩ := two_facts XS.out; refine hK.out _ _ ⟨s0, s1⟩ (fun hHeld => ?_); clear hK K; (try simp only [Act.put, List.setIfInBounds_toArray, List.set_cons_zero, List.set_cons_succ])
      refine reg_two 2 6 rfl rfl (by kernel_rfl) (fun K hK => ?_) (fun K hK => ?_)
      · go_simp; refine (hPu.out _ HRc.out HGc.out).mono ?_; rintro e wu ⟨D', m', c', hm', rfl, hFu, hbu⟩; have HF := hid hFu; have XS := hid (XS.out.belowS hbu); have HRc := hid (HRc.out.below hbu); have HGc := hid (HGc.out.below hbu); have X0c := hid (below_chain X0c.out hbu); obtain ⟨s0, s1, _, _⟩ := two_facts XS.out; refine hK.out _ _ ⟨s0, s1⟩ (fun hHeld => ?_); clear hK K; (try simp only [Act.put, List.setIfInBounds_toArray, List.set_cons_zero, List.set_cons_succ])
        refine reg_take (v := ?_) 3 rfl (by kernel_rfl) (by kernel_rfl) (by kernel_rfl) (fun _ _ _ h => h) (Or.inl ⟨by rfl, ?_⟩) (by assumption) ?_; rotate_left; (intro w hSw; (try dsimp only at hSw); go_simp); (try with_reducible rfl); (try simp only [Act.put, List.setIfInBounds_toArray, List.set_cons_zero, List.set_cons_succ])
        refine reg_take (v := ?_) 4 rfl (by kernel_rfl) (by kernel_rfl) (by kernel_rfl) (fun _ _ _ h => h) (Or.inl ⟨by rfl, ?_⟩) (by assumption) ?_; rotate_left; (intro w hSw; (try dsimp only at hSw); go_simp); (try with_reducible rfl); (try simp only [Act.put, List.setIfInBounds_toArray, List.set_cons_zero, List.set_cons_succ])
        refine reg_take (v := ?_) 5 rfl (by kernel_rfl) (by kernel_rfl) (by kernel_rfl) (fun _ _ _ h => h) (Or.inl ⟨by rfl, ?_⟩) (by assumption) ?_; rotate_left; (intro w hSw; (try dsimp only at hSw); go_simp); (try with_reducible rfl); (try simp only [Act.put, List.setIfInBounds_toArray, List.set_cons_zero, List.set_cons_succ])
        refine reg_only 6 rfl (by kernel_rfl) (fun K hK => ?_); refine step_al rfl 24 rfl _ (tap_zero _) ?_; intro wa hBa hba hy; clear hy; have HN := hid ((RdN.of_lt HF.out.rd0 (Nat.le_refl _)).below hba); have hgB := hid X0c.out.size; have XS := hid (XS.out.belowS hba); have HRc := hid (HRc.out.below hba); have HGc := hid (HGc.out.below hba); have X0c := hid (below_chain X0c.out hba); have XB := hid hBa; obtain ⟨s0, s1, _, _⟩ := two_facts XS.out; refine hK.out _ _ ⟨s0, s1⟩ (fun hHeld => ?_); clear hK K; (try simp only [Act.put, List.setIfInBounds_toArray, List.set_cons_zero, List.set_cons_succ])
        refine reg_only 7 rfl (by kernel_rfl) (fun K hK => ?_); refine step_str rfl 24 _ _ rfl _ _ rfl rfl _ _ XB.out rfl (tap_size _ _) (one_tap _ _ _ _) ?_; intro ws hBs hgs' hy; clear hy; have hgB' := hgB.out; have XS := hid (XS.out.grown hgs' (fun e => by have := Option.some.inj e; omega)); have X0c := hid (below_set X0c.out hgs' hgB'); have HN := hid (HN.out.grown hgs'); have XB := hid hBs; obtain ⟨s0, s1, _, _⟩ := two_facts XS.out; refine hK.out _ _ ⟨s0, s1⟩ (fun hHeld => ?_); clear hK K; (try simp only [Act.put, List.setIfInBounds_toArray, List.set_cons_zero, List.set_cons_succ])
        refine reg_take (v := ?_) 8 rfl (by kernel_rfl) (by kernel_rfl) (by kernel_rfl) (fun _ _ _ h => h) (Or.inl ⟨by rfl, ?_⟩) (by assumption) ?_; rotate_left; (intro w hSw; (try dsimp only at hSw); go_simp); (try with_reducible rfl); (try simp only [Act.put, List.setIfInBounds_toArray, List.set_cons_zero, List.set_cons_succ])
        refine wpAnyH_done (by kernel_rfl) ?_ _
        go_wp2_with fail
        go_meet
        exact ⟨_, _, _, _, hm', rfl, rfl, X0c.out, XB.out, HN.out.1⟩
      · refine step_al rfl 24 rfl _ (tap_zero _) ?_; intro wa hBa hba hy; clear hy; have hgB := hid X0c.out.size; have XS := hid (XS.out.belowS hba); have HRc := hid (HRc.out.below hba); have HGc := hid (HGc.out.below hba); have X0c := hid (below_chain X0c.out hba); have XB := hid hBa; obtain ⟨s0, s1, _, _⟩ := two_facts XS.out; refine hK.out _ _ ⟨s0, s1⟩ (fun hHeld => ?_); clear hK K; (try simp only [Act.put, List.setIfInBounds_toArray, List.set_cons_zero, List.set_cons_succ])
        refine reg_only 2 rfl (by kernel_rfl) (fun K hK => ?_); go_simp; refine (hPu.out _ HRc.out HGc.out).mono ?_; rintro e wu ⟨D', m', c', hm', rfl, hFu, hbu⟩; have HF := hid hFu; have HN := hid (RdN.of_fr hFu.1 XB.out.lt); have XS := hid (XS.out.belowS hbu); have HRc := hid (HRc.out.below hbu); have HGc := hid (HGc.out.below hbu); have X0c := hid (below_chain X0c.out hbu); have XB := hid (XB.out.belowS hbu); obtain ⟨s0, s1, _, _⟩ := two_facts XS.out; refine hK.out _ _ ⟨s0, s1⟩ (fun hHeld => ?_); clear hK K; (try simp only [Act.put, List.setIfInBounds_toArray, List.set_cons_zero, List.set_cons_succ])
        refine reg_take (v := ?_) 3 rfl (by kernel_rfl) (by kernel_rfl) (by kernel_rfl) (fun _ _ _ h => h) (Or.inl ⟨by rfl, ?_⟩) (by assumption) ?_; rotate_left; (intro w hSw; (try dsimp only at hSw); go_simp); (try with_reducible rfl); (try simp only [Act.put, List.setIfInBounds_toArray, List.set_cons_zero, List.set_cons_succ])
        refine reg_take (v := ?_) 4 rfl (by kernel_rfl) (by kernel_rfl) (by kernel_rfl) (fun _ _ _ h => h) (Or.inl ⟨by rfl, ?_⟩) (by assumption) ?_; rotate_left; (intro w hSw; (try dsimp only at hSw); go_simp); (try with_reducible rfl); (try simp only [Act.put, List.setIfInBounds_toArray, List.set_cons_zero, List.set_cons_succ])
        refine reg_take (v := ?_) 5 rfl (by kernel_rfl) (by kernel_rfl) (by kernel_rfl) (fun _ _ _ h => h) (Or.inl ⟨by rfl, ?_⟩) (by assumption) ?_; rotate_left; (intro w hSw; (try dsimp only at hSw); go_simp); (try with_reducible rfl); (try simp only [Act.put, List.setIfInBounds_toArray, List.set_cons_zero, List.set_cons_succ])
        refine reg_only 7 rfl (by kernel_rfl) (fun K hK => ?_); refine step_str rfl 24 _ _ rfl _ _ rfl rfl _ _ XB.out rfl (tap_size _ _) (one_tap _ _ _ _) ?_; intro ws hBs hgs' hy; clear hy; have hgB' := hgB.out; have XS := hid (XS.out.grown hgs' (fun e => by have := Option.some.inj e; omega)); have X0c := hid (below_set X0c.out hgs' hgB'); have HN := hid (HN.out.grown hgs'); have XB := hid hBs; obtain ⟨s0, s1, _, _⟩ := two_facts XS.out; refine hK.out _ _ ⟨s0, s1⟩ (fun hHeld => ?_); clear hK K; (try simp only [Act.put, List.setIfInBounds_toArray, List.set_cons_zero, List.set_cons_succ])
        refine reg_take (v := ?_) 8 rfl (by kernel_rfl) (by kernel_rfl) (by kernel_rfl) (fun _ _ _ h => h) (Or.inl ⟨by rfl, ?_⟩) (by assumption) ?_; rotate_left; (intro w hSw; (try dsimp only at hSw); go_simp); (try with_reducible rfl); (try simp only [Act.put, List.setIfInBounds_toArray, List.set_cons_zero, List.set_cons_succ])
        refine wpAnyH_done (by kernel_rfl) ?_ _
        go_wp2_with fail
        go_meet
        exact ⟨_, _, _, _, hm', rfl, rfl, X0c.out, XB.out, HN.out.1⟩
    · refine step_al rfl 24 rfl _ (tap_zero _) ?_; intro wa hBa hba hy; clear hy; have hgB := hid X0c.out.size; have XS := hid (XS.out.belowS hba); have HRc := hid (HRc.out.below hba); have HGc := hid (HGc.out.below hba); have X0c := hid (below_chain X0c.out hba); have XB := hid hBa; obtain ⟨s0, s1, _, _⟩ := two_facts XS.out; refine hK.out _ _ ⟨s0, s1⟩ (fun hHeld => ?_); clear hK K; (try simp only [Act.put, List.setIfInBounds_toArray, List.set_cons_zero, List.set_cons_succ])
      refine reg_only 1 rfl (by kernel_rfl) (fun K hK => ?_); go_simp; refine (hEv.out _).mono ?_; rintro e wv ⟨rfl, hbv⟩; have XS := hid (XS.out.belowS hbv); have HRc := hid (HRc.out.below hbv); have HGc := hid (HGc.out.below hbv); have X0c := hid (below_chain X0c.out hbv); have XB := hid (XB.out.belowS hbv); obtain ⟨s0, s1, _, _⟩ := two_facts XS.out; refine hK.out _ _ ⟨s0, s1⟩ (fun hHeld => ?_); clear hK K; (try simp only [Act.put, List.setIfInBounds_toArray, List.set_cons_zero, List.set_cons_succ])
      refine reg_only 2 rfl (by kernel_rfl) (fun K hK => ?_); go_simp; refine (hPu.out _ HRc.out HGc.out).mono ?_; rintro e wu ⟨D', m', c', hm', rfl, hFu, hbu⟩; have HF := hid hFu; have HN := hid (RdN.of_fr hFu.1 XB.out.lt); have XS := hid (XS.out.belowS hbu); have HRc := hid (HRc.out.below hbu); have HGc := hid (HGc.out.below hbu); have X0c := hid (below_chain X0c.out hbu); have XB := hid (XB.out.belowS hbu); obtain ⟨s0, s1, _, _⟩ := two_facts XS.out; refine hK.out _ _ ⟨s0, s1⟩ (fun hHeld => ?_); clear hK K; (try simp only [Act.put, List.setIfInBounds_toArray, List.set_cons_zero, List.set_cons_succ])
      refine reg_take (v := ?_) 3 rfl (by kernel_rfl) (by kernel_rfl) (by kernel_rfl) (fun _ _ _ h => h) (Or.inl ⟨by rfl, ?_⟩) (by assumption) ?_; rotate_left; (intro w hSw; (try dsimp only at hSw); go_simp); (try with_reducible rfl); (try simp only [Act.put, List.setIfInBounds_toArray, List.set_cons_zero, List.set_cons_succ])
      refine reg_take (v := ?_) 4 rfl (by kernel_rfl) (by kernel_rfl) (by kernel_rfl) (fun _ _ _ h => h) (Or.inl ⟨by rfl, ?_⟩) (by assumption) ?_; rotate_left; (intro w hSw; (try dsimp only at hSw); go_simp); (try with_reducible rfl); (try simp only [Act.put, List.setIfInBounds_toArray, List.set_cons_zero, List.set_cons_succ])
      refine reg_take (v := ?_) 5 rfl (by kernel_rfl) (by kernel_rfl) (by kernel_rfl) (fun _ _ _ h => h) (Or.inl ⟨by rfl, ?_⟩) (by assumption) ?_; rotate_left; (intro w hSw; (try dsimp only at hSw); go_simp); (try with_reducible rfl); (try simp only [Act.put, List.setIfInBounds_toArray, List.set_cons_zero, List.set_cons_succ])
      refine reg_only 7 rfl (by kernel_rfl) (fun K hK => ?_); refine step_str rfl 24 _ _ rfl _ _ rfl rfl _ _ XB.out rfl (tap_size _ _) (one_tap _ _ _ _) ?_; intro ws hBs hgs' hy; clear hy; have hgB' := hgB.out; have XS := hid (XS.out.grown hgs' (fun e => by have := Option.some.inj e; omega)); have X0c := hid (below_set X0c.out hgs' hgB'); have HN := hid (HN.out.grown hgs'); have XB := hid hBs; obtain ⟨s0, s1, _, _⟩ := two_facts XS.out; refine hK.out _ _ ⟨s0, s1⟩ (fun hHeld => ?_); clear hK K; (try simp only [Act.put, List.setIfInBounds_toArray, List.set_cons_zero, List.set_cons_succ])
      refine reg_take (v := ?_) 8 rfl (by kernel_rfl) (by kernel_rfl) (by kernel_rfl) (fun _ _ _ h => h) (Or.inl ⟨by rfl, ?_⟩) (by assumption) ?_; rotate_left; (intro w hSw; (try dsimp only at hSw); go_simp); (try with_reducible rfl); (try simp only [Act.put, List.setIfInBounds_toArray, List.set_cons_zero, List.set_cons_succ])
      refine wpAnyH_done (by kernel_rfl) ?_ _
      go_wp2_with fail
      go_meet
      exact ⟨_, _, _, _, hm', rfl, rfl, X0c.out, XB.out, HN.out.1⟩
  obtain ⟨Dg, mg, cg, gg, hmg, rfl, rfl, hbg, hBg, hRg⟩ := hcut
  generalize wc = w10 at *
  have Y0 := hid (below_chain Y0.out hbg)
  have HG := hid (HG0.out.below Y0.out)
  have Xg := hid hBg
  have Rg := hid hRg
  have XA := hid (XA.out.belowS hbg)
  have RA := hid (RA.out.below hbg)
  have Xc := hid (Xc.out.belowS hbg)
  have Rc := hid (Rc.out.below hbg)
  have Xj := hid (Xj.out.belowS hbg)
  have Rj := hid (Rj.out.below hbg)
  clear hbg hBg hRg
  have la := XA.out.lt
  go_wp2_with fail
  go_cut [13, 14] (fun st se wx => ∃ D m c g, m ≤ 1000 ∧ st = .pointer (some ⟨g, 0, none⟩) ∧ se = .int .i64 8 ∧ Below w10.heap.size w10 wx ∧ Blk wx g 24 #[.slice D m c, .bool tH.2.1] ∧ Rd wx 0 101 D m (itsL tH.1))
  case first =>
    have XS := XA
    have HRc := RA
    have HGc := HG
    have hgs : ga < w10.heap.size := XA.out.lt
    have hEv := hEm
    have hPu := hid (fun W h k => hU4.out Da ma ca W h k)
    have hdw : w10.drew.heap.size = w10.heap.size := rfl; have XS := hid XS.out.drew; have HRc := hid (HRc.out.below (below_self_drew _)); have HGc := hid (HGc.out.below (below_self_drew _)); have X0c := hid (below_self_drew w10); obtain ⟨s0, s1, _, _⟩ := two_facts XS.out
    refine wp_region_held_drew (S := (fun w' => w'.cell? ⟨ga, 0, none⟩ = some (.slice Da ma ca) ∧ w'.cell? ⟨ga, 1, none⟩ = some (.bool tA.2.1))) (by kernel_rfl) ⟨s0, s1⟩ (fun hHeld => ?_)
    refine reg_take (v := ?_) 0 rfl (by kernel_rfl) (by kernel_rfl) (by kernel_rfl) (fun _ _ _ h => h) (Or.inl ⟨by rfl, ?_⟩) (by assumption) ?_; rotate_left; (intro w hSw; (try dsimp only at hSw); go_simp); (try with_reducible rfl); (try simp only [Act.put, List.setIfInBounds_toArray, List.set_cons_zero, List.set_cons_succ])
    refine reg_two 1 6 rfl rfl (by kernel_rfl) (fun K hK => ?_) (fun K hK => ?_)
    · go_simp; refine (hEv.out _).mono ?_; rintro e wv ⟨rfl, hbv⟩; have XS := hid (XS.out.belowS hbv); have HRc := hid (HRc.out.below hbv); have HGc := hid (HGc.out.below hbv); have X0c := hid (below_chain X0c.out hbv); obtain ⟨s0, s1, _, _⟩ := two_facts XS.out; refine hK.out _ _ ⟨s0, s1⟩ (fun hHeld => ?_); clear hK K; (try simp only [Act.put, List.setIfInBounds_toArray, List.set_cons_zero, List.set_cons_succ])
      refine reg_two 2 6 rfl rfl (by kernel_rfl) (fun K hK => ?_) (fun K hK => ?_)
      · go_simp; refine (hPu.out _ HRc.out HGc.out).mono ?_; rintro e wu ⟨D', m', c', hm', rfl, hFu, hbu⟩; have HF := hid hFu; have XS := hid (XS.out.belowS hbu); have HRc := hid (HRc.out.below hbu); have HGc := hid (HGc.out.below hbu); have X0c := hid (below_chain X0c.out hbu); obtain ⟨s0, s1, _, _⟩ := two_facts XS.out; refine hK.out _ _ ⟨s0, s1⟩ (fun hHeld => ?_); clear hK K; (try simp only [Act.put, List.setIfInBounds_toArray, List.set_cons_zero, List.set_cons_succ])
        refine reg_take (v := ?_) 3 rfl (by kernel_rfl) (by kernel_rfl) (by kernel_rfl) (fun _ _ _ h => h) (Or.inl ⟨by rfl, ?_⟩) (by assumption) ?_; rotate_left; (intro w hSw; (try dsimp only at hSw); go_simp); (try with_reducible rfl); (try simp only [Act.put, List.setIfInBounds_toArray, List.set_cons_zero, List.set_cons_succ])
        refine reg_take (v := ?_) 4 rfl (by kernel_rfl) (by kernel_rfl) (by kernel_rfl) (fun _ _ _ h => h) (Or.inl ⟨by rfl, ?_⟩) (by assumption) ?_; rotate_left; (intro w hSw; (try dsimp only at hSw); go_simp); (try with_reducible rfl); (try simp only [Act.put, List.setIfInBounds_toArray, List.set_cons_zero, List.set_cons_succ])
        refine reg_take (v := ?_) 5 rfl (by kernel_rfl) (by kernel_rfl) (by kernel_rfl) (fun _ _ _ h => h) (Or.inl ⟨by rfl, ?_⟩) (by assumption) ?_; rotate_left; (intro w hSw; (try dsimp only at hSw); go_simp); (try with_reducible rfl); (try simp only [Act.put, List.setIfInBounds_toArray, List.set_cons_zero, List.set_cons_succ])
        refine reg_only 6 rfl (by kernel_rfl) (fun K hK => ?_); refine step_al rfl 24 rfl _ (tap_zero _) ?_; intro wa hBa hba hy; clear hy; have HN := hid ((RdN.of_lt HF.out.rd0 (Nat.le_refl _)).below hba); have hgB := hid X0c.out.size; have XS := hid (XS.out.belowS hba); have HRc := hid (HRc.out.below hba); have HGc := hid (HGc.out.below hba); have X0c := hid (below_chain X0c.out hba); have XB := hid hBa; obtain ⟨s0, s1, _, _⟩ := two_facts XS.out; refine hK.out _ _ ⟨s0, s1⟩ (fun hHeld => ?_); clear hK K; (try simp only [Act.put, List.setIfInBounds_toArray, List.set_cons_zero, List.set_cons_succ])
        refine reg_only 7 rfl (by kernel_rfl) (fun K hK => ?_); refine step_str rfl 24 _ _ rfl _ _ rfl rfl _ _ XB.out rfl (tap_size _ _) (one_tap _ _ _ _) ?_; intro ws hBs hgs' hy; clear hy; have hgB' := hgB.out; have XS := hid (XS.out.grown hgs' (fun e => by have := Option.some.inj e; omega)); have X0c := hid (below_set X0c.out hgs' hgB'); have HN := hid (HN.out.grown hgs'); have XB := hid hBs; obtain ⟨s0, s1, _, _⟩ := two_facts XS.out; refine hK.out _ _ ⟨s0, s1⟩ (fun hHeld => ?_); clear hK K; (try simp only [Act.put, List.setIfInBounds_toArray, List.set_cons_zero, List.set_cons_succ])
        refine reg_take (v := ?_) 8 rfl (by kernel_rfl) (by kernel_rfl) (by kernel_rfl) (fun _ _ _ h => h) (Or.inl ⟨by rfl, ?_⟩) (by assumption) ?_; rotate_left; (intro w hSw; (try dsimp only at hSw); go_simp); (try with_reducible rfl); (try simp only [Act.put, List.setIfInBounds_toArray, List.set_cons_zero, List.set_cons_succ])
        refine wpAnyH_done (by kernel_rfl) ?_ _
        go_wp2_with fail
        go_meet
        exact ⟨_, _, _, _, hm', rfl, rfl, X0c.out, XB.out, HN.out.1⟩
      · refine step_al rfl 24 rfl _ (tap_zero _) ?_; intro wa hBa hba hy; clear hy; have hgB := hid X0c.out.size; have XS := hid (XS.out.belowS hba); have HRc := hid (HRc.out.below hba); have HGc := hid (HGc.out.below hba); have X0c := hid (below_chain X0c.out hba); have XB := hid hBa; obtain ⟨s0, s1, _, _⟩ := two_facts XS.out; refine hK.out _ _ ⟨s0, s1⟩ (fun hHeld => ?_); clear hK K; (try simp only [Act.put, List.setIfInBounds_toArray, List.set_cons_zero, List.set_cons_succ])
        refine reg_only 2 rfl (by kernel_rfl) (fun K hK => ?_); go_simp; refine (hPu.out _ HRc.out HGc.out).mono ?_; rintro e wu ⟨D', m', c', hm', rfl, hFu, hbu⟩; have HF := hid hFu; have HN := hid (RdN.of_fr hFu.1 XB.out.lt); have XS := hid (XS.out.belowS hbu); have HRc := hid (HRc.out.below hbu); have HGc := hid (HGc.out.below hbu); have X0c := hid (below_chain X0c.out hbu); have XB := hid (XB.out.belowS hbu); obtain ⟨s0, s1, _, _⟩ := two_facts XS.out; refine hK.out _ _ ⟨s0, s1⟩ (fun hHeld => ?_); clear hK K; (try simp only [Act.put, List.setIfInBounds_toArray, List.set_cons_zero, List.set_cons_succ])
        refine reg_take (v := ?_) 3 rfl (by kernel_rfl) (by kernel_rfl) (by kernel_rfl) (fun _ _ _ h => h) (Or.inl ⟨by rfl, ?_⟩) (by assumption) ?_; rotate_left; (intro w hSw; (try dsimp only at hSw); go_simp); (try with_reducible rfl); (try simp only [Act.put, List.setIfInBounds_toArray, List.set_cons_zero, List.set_cons_succ])
        refine reg_take (v := ?_) 4 rfl (by kernel_rfl) (by kernel_rfl) (by kernel_rfl) (fun _ _ _ h => h) (Or.inl ⟨by rfl, ?_⟩) (by assumption) ?_; rotate_left; (intro w hSw; (try dsimp only at hSw); go_simp); (try with_reducible rfl); (try simp only [Act.put, List.setIfInBounds_toArray, List.set_cons_zero, List.set_cons_succ])
        refine reg_take (v := ?_) 5 rfl (by kernel_rfl) (by kernel_rfl) (by kernel_rfl) (fun _ _ _ h => h) (Or.inl ⟨by rfl, ?_⟩) (by assumption) ?_; rotate_left; (intro w hSw; (try dsimp only at hSw); go_simp); (try with_reducible rfl); (try simp only [Act.put, List.setIfInBounds_toArray, List.set_cons_zero, List.set_cons_succ])
        refine reg_only 7 rfl (by kernel_rfl) (fun K hK => ?_); refine step_str rfl 24 _ _ rfl _ _ rfl rfl _ _ XB.out rfl (tap_size _ _) (one_tap _ _ _ _) ?_; intro ws hBs hgs' hy; clear hy; have hgB' := hgB.out; have XS := hid (XS.out.grown hgs' (fun e => by have := Option.some.inj e; omega)); have X0c := hid (below_set X0c.out hgs' hgB'); have HN := hid (HN.out.grown hgs'); have XB := hid hBs; obtain ⟨s0, s1, _, _⟩ := two_facts XS.out; refine hK.out _ _ ⟨s0, s1⟩ (fun hHeld => ?_); clear hK K; (try simp only [Act.put, List.setIfInBounds_toArray, List.set_cons_zero, List.set_cons_succ])
        refine reg_take (v := ?_) 8 rfl (by kernel_rfl) (by kernel_rfl) (by kernel_rfl) (fun _ _ _ h => h) (Or.inl ⟨by rfl, ?_⟩) (by assumption) ?_; rotate_left; (intro w hSw; (try dsimp only at hSw); go_simp); (try with_reducible rfl); (try simp only [Act.put, List.setIfInBounds_toArray, List.set_cons_zero, List.set_cons_succ])
        refine wpAnyH_done (by kernel_rfl) ?_ _
        go_wp2_with fail
        go_meet
        exact ⟨_, _, _, _, hm', rfl, rfl, X0c.out, XB.out, HN.out.1⟩
    · refine step_al rfl 24 rfl _ (tap_zero _) ?_; intro wa hBa hba hy; clear hy; have hgB := hid X0c.out.size; have XS := hid (XS.out.belowS hba); have HRc := hid (HRc.out.below hba); have HGc := hid (HGc.out.below hba); have X0c := hid (below_chain X0c.out hba); have XB := hid hBa; obtain ⟨s0, s1, _, _⟩ := two_facts XS.out; refine hK.out _ _ ⟨s0, s1⟩ (fun hHeld => ?_); clear hK K; (try simp only [Act.put, List.setIfInBounds_toArray, List.set_cons_zero, List.set_cons_succ])
      refine reg_only 1 rfl (by kernel_rfl) (fun K hK => ?_); go_simp; refine (hEv.out _).mono ?_; rintro e wv ⟨rfl, hbv⟩; have XS := hid (XS.out.belowS hbv); have HRc := hid (HRc.out.below hbv); have HGc := hid (HGc.out.below hbv); have X0c := hid (below_chain X0c.out hbv); have XB := hid (XB.out.belowS hbv); obtain ⟨s0, s1, _, _⟩ := two_facts XS.out; refine hK.out _ _ ⟨s0, s1⟩ (fun hHeld => ?_); clear hK K; (try simp only [Act.put, List.setIfInBounds_toArray, List.set_cons_zero, List.set_cons_succ])
      refine reg_only 2 rfl (by kernel_rfl) (fun K hK => ?_); go_simp; refine (hPu.out _ HRc.out HGc.out).mono ?_; rintro e wu ⟨D', m', c', hm', rfl, hFu, hbu⟩; have HF := hid hFu; have HN := hid (RdN.of_fr hFu.1 XB.out.lt); have XS := hid (XS.out.belowS hbu); have HRc := hid (HRc.out.below hbu); have HGc := hid (HGc.out.below hbu); have X0c := hid (below_chain X0c.out hbu); have XB := hid (XB.out.belowS hbu); obtain ⟨s0, s1, _, _⟩ := two_facts XS.out; refine hK.out _ _ ⟨s0, s1⟩ (fun hHeld => ?_); clear hK K; (try simp only [Act.put, List.setIfInBounds_toArray, List.set_cons_zero, List.set_cons_succ])
      refine reg_take (v := ?_) 3 rfl (by kernel_rfl) (by kernel_rfl) (by kernel_rfl) (fun _ _ _ h => h) (Or.inl ⟨by rfl, ?_⟩) (by assumption) ?_; rotate_left; (intro w hSw; (try dsimp only at hSw); go_simp); (try with_reducible rfl); (try simp only [Act.put, List.setIfInBounds_toArray, List.set_cons_zero, List.set_cons_succ])
      refine reg_take (v := ?_) 4 rfl (by kernel_rfl) (by kernel_rfl) (by kernel_rfl) (fun _ _ _ h => h) (Or.inl ⟨by rfl, ?_⟩) (by assumption) ?_; rotate_left; (intro w hSw; (try dsimp only at hSw); go_simp); (try with_reducible rfl); (try simp only [Act.put, List.setIfInBounds_toArray, List.set_cons_zero, List.set_cons_succ])
      refine reg_take (v := ?_) 5 rfl (by kernel_rfl) (by kernel_rfl) (by kernel_rfl) (fun _ _ _ h => h) (Or.inl ⟨by rfl, ?_⟩) (by assumption) ?_; rotate_left; (intro w hSw; (try dsimp only at hSw); go_simp); (try with_reducible rfl); (try simp only [Act.put, List.setIfInBounds_toArray, List.set_cons_zero, List.set_cons_succ])
      refine reg_only 7 rfl (by kernel_rfl) (fun K hK => ?_); refine step_str rfl 24 _ _ rfl _ _ rfl rfl _ _ XB.out rfl (tap_size _ _) (one_tap _ _ _ _) ?_; intro ws hBs hgs' hy; clear hy; have hgB' := hgB.out; have XS := hid (XS.out.grown hgs' (fun e => by have := Option.some.inj e; omega)); have X0c := hid (below_set X0c.out hgs' hgB'); have HN := hid (HN.out.grown hgs'); have XB := hid hBs; obtain ⟨s0, s1, _, _⟩ := two_facts XS.out; refine hK.out _ _ ⟨s0, s1⟩ (fun hHeld => ?_); clear hK K; (try simp only [Act.put, List.setIfInBounds_toArray, List.set_cons_zero, List.set_cons_succ])
      refine reg_take (v := ?_) 8 rfl (by kernel_rfl) (by kernel_rfl) (by kernel_rfl) (fun _ _ _ h => h) (Or.inl ⟨by rfl, ?_⟩) (by assumption) ?_; rotate_left; (intro w hSw; (try dsimp only at hSw); go_simp); (try with_reducible rfl); (try simp only [Act.put, List.setIfInBounds_toArray, List.set_cons_zero, List.set_cons_succ])
      refine wpAnyH_done (by kernel_rfl) ?_ _
      go_wp2_with fail
      go_meet
      exact ⟨_, _, _, _, hm', rfl, rfl, X0c.out, XB.out, HN.out.1⟩
  obtain ⟨Dh, mh, ch, gh, hmh, rfl, rfl, hbh, hBh, hRh⟩ := hcut
  generalize wc = w11 at *
  have Y0 := hid (below_chain Y0.out hbh)
  have HG := hid (HG0.out.below Y0.out)
  have Xh := hid hBh
  have Rh := hid hRh
  have Xc := hid (Xc.out.belowS hbh)
  have Rc := hid (Rc.out.below hbh)
  have Xj := hid (Xj.out.belowS hbh)
  have Rj := hid (Rj.out.below hbh)
  clear hbh hBh hRh
  clear hU1 hU2 hU3 hU4 hE4 hEm XA RA la lb
  go_upto_region 8 with (first
    | ((with_reducible refine at_build 32 ?_); refine wpList_b1 rfl 32 0 _ rfl (.bool true) rfl G (hGB.out _) ?_)
    | ((with_reducible refine at_bslice 22 ?_); refine wpList_bsl2 rfl 22 32 2 0 1 _ _ rfl (.agg G) (.agg G) rfl rfl _ (hBS.out _) ?_; intro w12 hB12 hb12 hy; clear hy)
    | ((with_reducible refine at_build 24 ?_); refine wpList_b1 rfl 24 0 _ rfl (.slice (some ⟨w11.heap.size, 0, none⟩) 2 2) rfl _ (tapL_built _ _ _ _) ?_)
    | ((with_reducible refine at_alloc 24 ?_); refine wpList_al rfl 24 rfl _ (tap_zero _) ?_; intro w13 hB13 hb13 hy; clear hy)
    | ((with_reducible refine at_store 24 ?_); refine wpList_str rfl 24 _ _ rfl w12.heap.size _ rfl rfl _ _ hB13 rfl (tap_size _ _) (one_tap _ _ _ _) ?_; intro w14 hB14 hg14 hy; clear hy))
  have hb24 : Below w12.heap.size w12 w14 := hb13.grown hg14 hb13.size (by intro k e; cases e; exact Nat.le_refl _)
  have hb14 := below_chain hb12 hb24
  have Y0 := hid (below_chain Y0.out hb14)
  have HG := hid (HG0.out.below Y0.out)
  have Xc := hid (Xc.out.belowS hb14)
  have Xj := hid (Xj.out.belowS hb14)
  have Rc := hid (Rc.out.below hb14)
  have Rj := hid (Rj.out.below hb14)
  have Xk := hid hB14
  have Rk := hid (show Rd w14 0 101 (some ⟨w11.heap.size, 0, none⟩) 2 (itsL [gapIt, gapIt]) from ((hB12.rd hgL).low (Nat.zero_le _)).below hb24)
  clear hB12 hb12 hB13 hb13 hB14 hg14 hb24 hb14 hBS hGB
  generalize w12.heap.size = gk at *
  generalize w11.heap.size = gk2 at *
  go_wp2_with (first
    | ((with_reducible refine (hAl.out _ HG.out).mono ?_); rintro e w15 ⟨rfl, hb15⟩; have Y1 := hid (below_chain Y0.out hb15); obtain ⟨c0, c1, _, _⟩ := two_facts (Xc.out.belowS hb15); have hI1 := hid (show Rd (w15.alloc (.cells #[.int .i64 (-1), .int .i64 4] 3)) 0 1 (some ⟨w15.heap.size, 0, none⟩) 2 ([-1, 4].map (Value.int .i64)) from ints_rd w15 [-1, 4] _); have hb15' := below_chain hb15 (below_alloc1 w15 (.cells #[.int .i64 (-1), .int .i64 4] 3)))
    | ((with_reducible refine (hK1.out _ _ _ _ _ _ _ hmc (Rc.out.below hb15') hI1.out (HG.out.below hb15')).mono ?_); rintro e w16 ⟨rfl, hb16⟩; have hb16' := below_chain hb15' hb16; obtain ⟨d0, d1, _, _⟩ := two_facts (Xj.out.belowS hb16'); have hI2 := hid (show Rd (w16.alloc (.cells #[.int .i64 2, .int .i64 (-1)] 3)) 0 1 (some ⟨w16.heap.size, 0, none⟩) 2 ([2, -1].map (Value.int .i64)) from ints_rd w16 [2, -1] _); have hb17 := below_chain hb16' (below_alloc1 w16 (.cells #[.int .i64 2, .int .i64 (-1)] 3)))
    | ((with_reducible refine (hK2.out _ _ _ _ _ _ _ hmj (Rj.out.below hb17) hI2.out (HG.out.below hb17)).mono ?_); rintro e w18 ⟨rfl, hb18⟩; have hb18' := below_chain hb17 hb18; obtain ⟨k0, k1, _, _⟩ := two_facts (Xk.out.belowS hb18'))
    | ((with_reducible refine (hC.out _ _ _ _ _ (Rk.out.below hb18') (HG.out.below hb18')).mono ?_); rintro e w19 ⟨rfl, hb19⟩))
  go_ret
  exact ⟨rfl, below_chain (below_chain Y0.out hb18') hb19⟩

end Go.Proofs.YthcaecccpjdpkaaDoor
