/-
  Contracts of slices.EqualFunc at subscribers, hub.Same. No condition beyond those each theorem names.
-/
import Derived.Test.YtmepbokoopgmiaaDoorHubW
namespace Go.Proofs.YtmepbokoopgmiaaDoor
open Go.RowKit
set_option linter.unusedSimpArgs false
set_option linter.unusedVariables false

theorem subs4 {w : World} {g : Nat} {t : TypeId} {r : RS} (h : Blk w g t (rsL r).toArray) : w.cell? ⟨g, 0, none⟩ = some (.int .i64 r.1.1) ∧ w.cell? ⟨g, 1, none⟩ = some (.int .i64 r.1.2.1) ∧ w.cell? ⟨g, 2, none⟩ = some (.slice r.2.1 r.2.2.1 r.2.2.2) ∧ w.cell? ⟨g, 3, none⟩ = some (.bool r.1.2.2.2) :=
  ⟨h.cellv rfl, h.cellv rfl, h.cellv rfl, h.cellv rfl⟩
theorem pair_dec {x y : List It} {a b : Bool} : decide ((x, a) = (y, b)) = (decide (x = y) && decide (a = b)) := by
  rw [Bool.eq_iff_iff]
  simp
theorem sub_eq {x y : Sub} : decide (x = y) = (decide (x.1 = y.1) && (decide (x.2.1 = y.2.1) && decide ((x.2.2.1, x.2.2.2) = (y.2.2.1, y.2.2.2)))) := by
  obtain ⟨a, b, c, d⟩ := x
  obtain ⟨a', b', c', d'⟩ := y
  rw [Bool.eq_iff_iff]
  simp

set_option maxRecDepth 100000 in
set_option maxHeartbeats 4000000 in
theorem same1_id (r t : RS) (w : World) (hr : SubAt w r) (ht : SubAt w t) (h1k : r.2.2.1 ≤ 1000) (h : (r.1.1 == t.1.1) = false) :
    Calls Tryd.prog 44 #[.agg (rsL r).toArray, .agg (rsL t).toArray] w (GivesB w false) := by
  have HR := hid hr
  have HT := hid ht
  have hE := hid (fun W (h : SubAt W r) (k : SubAt W t) => tsame_any r.2.1 t.2.1 r.2.2.1 t.2.2.1 r.2.2.2 t.2.2.2 r.1.2.2.2 t.1.2.2.2 r.1.2.2.1 t.1.2.2.1 h.1 k.1 W h.2 k.2 h1k)
  clear hr ht
  have f1 := hid (fun (W : World) (g : Nat) (h : Blk W g 53 (rsL r).toArray) => subs4 h)
  have f2 := hid (fun (W : World) (g : Nat) (h : Blk W g 53 (rsL t).toArray) => subs4 h)
  obtain ⟨⟨rid, rfr, rit, rlo⟩, rA, rn, rc⟩ := r
  obtain ⟨⟨tid, tfr, tit, tlo⟩, tA, tn, tc⟩ := t
  simp only at f1 f2 hE h
  generalize (rsL ((rid, rfr, rit, rlo), rA, rn, rc)).toArray = RL at *
  generalize (rsL ((tid, tfr, tit, tlo), tA, tn, tc)).toArray = TL at *
  have tok1 : True := trivial
  go_enter Tryd.func44, Tryd.ntmps44
  go_wp2_with (first
    | (clear tok1; refine wpList_bx rfl 53 _ rfl RL rfl ?_; intro w1 hB1 hb1 hy; have hz1 := hid hy; clear hy)
    | (refine wpList_bx rfl 53 _ rfl TL rfl ?_; intro w2 hB2 hb2 hy; clear hy; have X0 := hid (below_chain hb1 hb2); obtain ⟨a0, a1, a2, a3⟩ := f1.out _ _ (hB1.belowS hb2); obtain ⟨c0, c1, c2, c3⟩ := f2.out _ _ hB2))
  go_ret
  exact ⟨rfl, X0.out⟩

set_option maxRecDepth 100000 in
set_option maxHeartbeats 4000000 in
theorem same1_fr (r t : RS) (w : World) (hr : SubAt w r) (ht : SubAt w t) (h1k : r.2.2.1 ≤ 1000) (h : (r.1.1 == t.1.1) = true) (h2 : (r.1.2.1 == t.1.2.1) = false) :
    Calls Tryd.prog 44 #[.agg (rsL r).toArray, .agg (rsL t).toArray] w (GivesB w false) := by
  have HR := hid hr
  have HT := hid ht
  have hE := hid (fun W (h : SubAt W r) (k : SubAt W t) => tsame_any r.2.1 t.2.1 r.2.2.1 t.2.2.1 r.2.2.2 t.2.2.2 r.1.2.2.2 t.1.2.2.2 r.1.2.2.1 t.1.2.2.1 h.1 k.1 W h.2 k.2 h1k)
  clear hr ht
  have f1 := hid (fun (W : World) (g : Nat) (h : Blk W g 53 (rsL r).toArray) => subs4 h)
  have f2 := hid (fun (W : World) (g : Nat) (h : Blk W g 53 (rsL t).toArray) => subs4 h)
  obtain ⟨⟨rid, rfr, rit, rlo⟩, rA, rn, rc⟩ := r
  obtain ⟨⟨tid, tfr, tit, tlo⟩, tA, tn, tc⟩ := t
  simp only at f1 f2 hE h h2
  generalize (rsL ((rid, rfr, rit, rlo), rA, rn, rc)).toArray = RL at *
  generalize (rsL ((tid, tfr, tit, tlo), tA, tn, tc)).toArray = TL at *
  have tok1 : True := trivial
  go_enter Tryd.func44, Tryd.ntmps44
  go_wp2_with (first
    | (clear tok1; refine wpList_bx rfl 53 _ rfl RL rfl ?_; intro w1 hB1 hb1 hy; have hz1 := hid hy; clear hy)
    | (refine wpList_bx rfl 53 _ rfl TL rfl ?_; intro w2 hB2 hb2 hy; clear hy; have X0 := hid (below_chain hb1 hb2); obtain ⟨a0, a1, a2, a3⟩ := f1.out _ _ (hB1.belowS hb2); obtain ⟨c0, c1, c2, c3⟩ := f2.out _ _ hB2))
  go_ret
  exact ⟨rfl, X0.out⟩

set_option maxRecDepth 100000 in
set_option maxHeartbeats 4000000 in
theorem same1_tap (r t : RS) (w : World) (hr : SubAt w r) (ht : SubAt w t) (h1k : r.2.2.1 ≤ 1000) (h : (r.1.1 == t.1.1) = true) (h2 : (r.1.2.1 == t.1.2.1) = true) :
    Calls Tryd.prog 44 #[.agg (rsL r).toArray, .agg (rsL t).toArray] w (GivesB w (decide ((r.1.2.2.1, r.1.2.2.2) = (t.1.2.2.1, t.1.2.2.2)))) := by
  have HR := hid hr
  have HT := hid ht
  have hE := hid (fun W (h : SubAt W r) (k : SubAt W t) => tsame_any r.2.1 t.2.1 r.2.2.1 t.2.2.1 r.2.2.2 t.2.2.2 r.1.2.2.2 t.1.2.2.2 r.1.2.2.1 t.1.2.2.1 h.1 k.1 W h.2 k.2 h1k)
  clear hr ht
  have f1 := hid (fun (W : World) (g : Nat) (h : Blk W g 53 (rsL r).toArray) => subs4 h)
  have f2 := hid (fun (W : World) (g : Nat) (h : Blk W g 53 (rsL t).toArray) => subs4 h)
  obtain ⟨⟨rid, rfr, rit, rlo⟩, rA, rn, rc⟩ := r
  obtain ⟨⟨tid, tfr, tit, tlo⟩, tA, tn, tc⟩ := t
  simp only at f1 f2 hE h h2 ⊢
  generalize (rsL ((rid, rfr, rit, rlo), rA, rn, rc)).toArray = RL at *
  generalize (rsL ((tid, tfr, tit, tlo), tA, tn, tc)).toArray = TL at *
  have tok1 : True := trivial
  go_enter Tryd.func44, Tryd.ntmps44
  go_wp2_with (first
    | (clear tok1; refine wpList_bx rfl 53 _ rfl RL rfl ?_; intro w1 hB1 hb1 hy; have hz1 := hid hy; clear hy)
    | (refine wpList_bx rfl 53 _ rfl TL rfl ?_; intro w2 hB2 hb2 hy; clear hy; have X0 := hid (below_chain hb1 hb2); obtain ⟨a0, a1, a2, a3⟩ := f1.out _ _ (hB1.belowS hb2); obtain ⟨c0, c1, c2, c3⟩ := f2.out _ _ hB2)
    | ((with_reducible refine (hE.out _ (HR.out.below X0.out) (HT.out.below X0.out)).mono ?_); rintro e w3 ⟨rfl, hb3⟩))
  go_ret
  refine ⟨?_, below_chain X0.out hb3⟩
  rw [pair_dec]
  rfl
theorem same1_any (q : Bool) (r t : RS) (hq : decide (r.1 = t.1) = q) (w : World) (hr : SubAt w r) (ht : SubAt w t) (h1k : r.2.2.1 ≤ 1000) :
    Calls Tryd.prog 44 #[.agg (rsL r).toArray, .agg (rsL t).toArray] w (GivesB w q) := by
  subst hq
  rw [sub_eq]
  cases h : (r.1.1 == t.1.1) with
  | false =>
    rw [decide_eq_false (by simpa using h), Bool.false_and]
    exact same1_id r t w hr ht h1k h
  | true =>
    rw [decide_eq_true (by simpa using h), Bool.true_and]
    cases h2 : (r.1.2.1 == t.1.2.1) with
    | false =>
      rw [decide_eq_false (by simpa using h2), Bool.false_and]
      exact same1_fr r t w hr ht h1k h h2
    | true =>
      rw [decide_eq_true (by simpa using h2), Bool.true_and]
      exact same1_tap r t w hr ht h1k h h2

set_option maxRecDepth 100000 in
set_option maxHeartbeats 4000000 in
theorem equalF_len (A B : Option Addr) (n m c d : Nat) (rs ts : List RS) (w : World) (ra : HRd w A n rs) (rb : HRd w B m ts) (hs : ∀ s ∈ subs rs, s.2.2.1.length ≤ 1000) (hn : ((n : Int) == (m : Int)) = false) :
    Calls Tryd.prog 43 #[.slice A n c, .slice B m d, .func (.func 44) #[] #[]] w (GivesB w false) := by
  have HA := hid ra
  have HB := hid rb
  have hla := hid ra.len
  have hlb := hid rb.len
  have HS := hid hs
  clear ra rb hs
  go_enter Tryd.func43, Tryd.ntmps43
  go_wp2_with fail
  go_ret
  exact ⟨rfl, Below.refl _ _⟩

set_option maxRecDepth 100000 in
set_option maxHeartbeats 4000000 in
theorem equalF_all (A B : Option Addr) (n m c d : Nat) (rs ts : List RS) (w : World) (ra : HRd w A n rs) (rb : HRd w B m ts) (hs : ∀ s ∈ subs rs, s.2.2.1.length ≤ 1000) (hn : n = m) (h1k : n ≤ 1000) :
    Calls Tryd.prog 43 #[.slice A n c, .slice B m d, .func (.func 44) #[] #[]] w (GivesB w (decide (subs rs = subs ts))) := by
  have HA := hid ra
  have HB := hid rb
  have hla := hid ra.len
  have hlb := hid rb.len
  have HS := hid hs
  clear ra rb hs
  go_enter Tryd.func43, Tryd.ntmps43
  go_wp2_with fail
  subst hn
  have hzs := zeroS_run
  have hsA : (Tryd.prog.info? 53).map (·.size) = some zeroS.size := sub_size _ _ _ _
  go_loopw [17] (fun i wx => ∃ k : Nat, k ≤ n ∧ i = .int .i64 k ∧ Below w.heap.size w wx ∧ ∀ j, j < k → (subs rs)[j]? = (subs ts)[j]?) (fun i _ => n - (intOf i).toNat)
  case atStart => exact ⟨0, Nat.zero_le _, rfl, Below.refl _ _, fun j hj => absurd hj (Nat.not_lt_zero _)⟩
  case round =>
    obtain ⟨k, hk, rfl, hbr, hno⟩ := hrel
    have HN := hid hno
    have HBr := hid hbr
    clear hno hbr
    have htz : (0 : Int) ≤ (k : Int) := by omega
    by_cases hlt : k < n
    · have hti : (k : Int) < (n : Int) := by omega
      have hxk : rs[k]? = some (rs[k]'(by have := hla.out; omega)) := List.getElem?_eq_getElem _
      have hyk : ts[k]? = some (ts[k]'(by have := hlb.out; omega)) := List.getElem?_eq_getElem _
      generalize rs[k]'(by have := hla.out; omega) = r at hxk
      generalize ts[k]'(by have := hlb.out; omega) = t at hyk
      obtain ⟨b1, o1, hA1, _, rx⟩ := (HA.out.below HBr.out).at_ hxk
      obtain ⟨b2, o2, hA2, _, ry⟩ := (HB.out.below HBr.out).at_ hyk
      have sr := hid ((HA.out.below HBr.out).2 r (List.mem_of_getElem? hxk))
      have st := hid ((HB.out.below HBr.out).2 t (List.mem_of_getElem? hyk))
      have hrn : r.2.2.1 ≤ 1000 := by have := sr.out.len; have := HS.out r.1 (List.mem_map_of_mem (List.mem_of_getElem? hxk)); omega
      have hXK := hid (show (subs rs)[k]? = some r.1 by simp [subs, hxk])
      have hYK := hid (show (subs ts)[k]? = some t.1 by simp [subs, hyk])
      subst hA1 hA2
      obtain ⟨ad1, had1⟩ : ∃ ad, o1 + k * 4 = ad := ⟨_, rfl⟩
      obtain ⟨ad2, had2⟩ : ∃ ad, o2 + k * 4 = ad := ⟨_, rfl⟩
      rw [had1] at rx
      rw [had2] at ry
      have hszr := rs_size r
      have hszt := rs_size t
      have hszR : (Tryd.prog.info? 53).map (·.size) = some (rsL r).toArray.size := hsA
      have hszT : (Tryd.prog.info? 53).map (·.size) = some (rsL t).toArray.size := hsA
      have hX0 : (rsL r).toArray.size = zeroS.size := rfl
      have hX1 : (rsL t).toArray.size = zeroS.size := rfl
      have hXo : ∀ v ∈ (rsL r).toArray, v.oneCell' = true := fun v hv => rsL_one _ v (by simpa using hv)
      have hXp : ∀ v ∈ (rsL t).toArray, v.oneCell' = true := fun v hv => rsL_one _ v (by simpa using hv)
      generalize hQ : decide (r.1 = t.1) = q
      have hC := hid (fun W (h : SubAt W r) (k : SubAt W t) => same1_any q r t hQ W h k hrn)
      have HQ := hid hQ
      clear hxk hyk hQ hrn
      generalize rsL r = RL at *
      generalize rsL t = TL at *
      cases q
      · go_wp2_with (first
          | ((with_reducible refine at_load (d := some 21) 53 ?_); refine wpList_load_mid rfl 53 _ rfl b1 ad1 rfl RL _ rx Tryd.underlying53 rfl hszr ?_)
          | ((with_reducible refine at_alloc (d := some 8) 53 ?_); refine wpList_al rfl 53 rfl zeroS (hzs _) ?_; intro v1 hV1 hv1 hy; have hvz1 := hid hy; clear hy)
          | ((with_reducible refine at_store (x := .tmp 8) 53 ?_); refine wpList_str rfl 53 _ _ rfl wr.heap.size RL.toArray rfl rfl _ zeroS hV1 hX0 hsA hXo ?_; intro v2 hV2 hg2 hy; clear hy; have q2 : Below wr.heap.size wr v2 := hv1.grown hg2 hv1.size (by intro k e; cases e; exact Nat.le_refl _); have ry2 := range_below ry q2)
          | ((with_reducible refine at_load (d := some 25) 53 ?_); refine wpList_load_mid rfl 53 _ rfl b2 ad2 rfl TL _ ry2 Tryd.underlying53 rfl hszt ?_)
          | ((with_reducible refine at_alloc (d := some 9) 53 ?_); refine wpList_al rfl 53 rfl zeroS (hzs _) ?_; intro v3 hV3 hv3 hy; clear hy)
          | ((with_reducible refine at_store (x := .tmp 9) 53 ?_); refine wpList_str rfl 53 _ _ rfl v2.heap.size TL.toArray rfl rfl _ zeroS hV3 hX1 hsA hXp ?_; intro v4 hV4 hg4 hy; clear hy; have q4 : Below v2.heap.size v2 v4 := hv3.grown hg4 hv3.size (by intro k e; cases e; exact Nat.le_refl _); have V2 := hV2.belowS q4; have q5 := below_chain q2 q4)
          | ((with_reducible refine at_load (d := some 27) 53 ?_); refine wpList_ldr rfl 53 _ rfl wr.heap.size rfl _ RL.toArray _ V2 Tryd.underlying53 rfl hszR ?_)
          | ((with_reducible refine at_load (d := some 28) 53 ?_); refine wpList_ldr rfl 53 _ rfl v2.heap.size rfl _ TL.toArray _ hV4 Tryd.underlying53 rfl hszT ?_)
          | ((with_reducible refine (hC.out _ (sr.out.below q5) (st.out.below q5)).mono ?_); rintro e v5 ⟨rfl, hb5⟩))
        have hend := HBr.out.trans ((below_chain q5 hb5).mono HBr.out.size)
        go_ret
        have hne : subs rs ≠ subs ts := fun e => by
          have h1 := hXK.out
          rw [e, hYK.out] at h1
          have := HQ.out
          rw [Option.some.inj h1] at this
          simp at this
        rw [decide_eq_false hne]
        exact ⟨rfl, hend⟩
      · go_wp2_with (first
          | ((with_reducible refine at_load (d := some 21) 53 ?_); refine wpList_load_mid rfl 53 _ rfl b1 ad1 rfl RL _ rx Tryd.underlying53 rfl hszr ?_)
          | ((with_reducible refine at_alloc (d := some 8) 53 ?_); refine wpList_al rfl 53 rfl zeroS (hzs _) ?_; intro v1 hV1 hv1 hy; have hvz1 := hid hy; clear hy)
          | ((with_reducible refine at_store (x := .tmp 8) 53 ?_); refine wpList_str rfl 53 _ _ rfl wr.heap.size RL.toArray rfl rfl _ zeroS hV1 hX0 hsA hXo ?_; intro v2 hV2 hg2 hy; clear hy; have q2 : Below wr.heap.size wr v2 := hv1.grown hg2 hv1.size (by intro k e; cases e; exact Nat.le_refl _); have ry2 := range_below ry q2)
          | ((with_reducible refine at_load (d := some 25) 53 ?_); refine wpList_load_mid rfl 53 _ rfl b2 ad2 rfl TL _ ry2 Tryd.underlying53 rfl hszt ?_)
          | ((with_reducible refine at_alloc (d := some 9) 53 ?_); refine wpList_al rfl 53 rfl zeroS (hzs _) ?_; intro v3 hV3 hv3 hy; clear hy)
          | ((with_reducible refine at_store (x := .tmp 9) 53 ?_); refine wpList_str rfl 53 _ _ rfl v2.heap.size TL.toArray rfl rfl _ zeroS hV3 hX1 hsA hXp ?_; intro v4 hV4 hg4 hy; clear hy; have q4 : Below v2.heap.size v2 v4 := hv3.grown hg4 hv3.size (by intro k e; cases e; exact Nat.le_refl _); have V2 := hV2.belowS q4; have q5 := below_chain q2 q4)
          | ((with_reducible refine at_load (d := some 27) 53 ?_); refine wpList_ldr rfl 53 _ rfl wr.heap.size rfl _ RL.toArray _ V2 Tryd.underlying53 rfl hszR ?_)
          | ((with_reducible refine at_load (d := some 28) 53 ?_); refine wpList_ldr rfl 53 _ rfl v2.heap.size rfl _ TL.toArray _ hV4 Tryd.underlying53 rfl hszT ?_)
          | ((with_reducible refine (hC.out _ (sr.out.below q5) (st.out.below q5)).mono ?_); rintro e v5 ⟨rfl, hb5⟩))
        have hend := HBr.out.trans ((below_chain q5 hb5).mono HBr.out.size)
        refine ⟨⟨k + 1, by omega, by go_num, hend, fun j hj => ?_⟩, by simp [intOf]; omega⟩
        rcases Nat.lt_succ_iff_lt_or_eq.1 hj with h1 | rfl
        · exact HN.out j h1
        · rw [hXK.out, hYK.out, of_decide_eq_true HQ.out]
    · obtain rfl : k = n := by omega
      have hti : ¬ (k : Int) < (k : Int) := by omega
      go_wp2
      go_ret
      refine ⟨?_, HBr.out⟩
      have he : subs rs = subs ts := List.ext_getElem? fun j => by
        by_cases hj : j < k
        · exact HN.out j hj
        · rw [List.getElem?_eq_none (by simp [subs]; have := hla.out; omega), List.getElem?_eq_none (by simp [subs]; have := hlb.out; omega)]
      rw [decide_eq_true he]
      rfl
theorem equalF_any (A B : Option Addr) (n m c d : Nat) (rs ts : List RS) (w : World) (ra : HRd w A n rs) (rb : HRd w B m ts) (hs : ∀ s ∈ subs rs, s.2.2.1.length ≤ 1000) (h1k : n ≤ 1000) :
    Calls Tryd.prog 43 #[.slice A n c, .slice B m d, .func (.func 44) #[] #[]] w (GivesB w (decide (subs rs = subs ts))) := by
  have hla := ra.len
  have hlb := rb.len
  by_cases hn : n = m
  · exact equalF_all A B n m c d rs ts w ra rb hs hn h1k
  · rw [decide_eq_false fun e => hn (by have := congrArg List.length e; simp [subs] at this; omega)]
    exact equalF_len A B n m c d rs ts w ra rb hs (by rw [beq_eq_false_iff_ne]; omega)

set_option maxRecDepth 100000 in
set_option maxHeartbeats 4000000 in
theorem hsame_next (na nb : Int) (A B : Option Addr) (n m c d : Nat) (rs ts : List RS) (w : World) (ra : HRd w A n rs) (rb : HRd w B m ts) (hs : ∀ s ∈ subs rs, s.2.2.1.length ≤ 1000) (h1k : n ≤ 1000) (h : (na == nb) = false) :
    Calls Tryd.prog 24 #[.agg #[.int .i64 na, .slice A n c], .agg #[.int .i64 nb, .slice B m d]] w (GivesB w false) := by
  have hE := hid (fun W h k => equalF_any A B n m c d rs ts W h k hs h1k)
  have HA := hid ra
  have HB := hid rb
  clear ra rb hs
  have tok1 : True := trivial
  go_enter Tryd.func24, Tryd.ntmps24
  go_wp2_with (first
    | (clear tok1; refine wpList_bx rfl 24 _ rfl #[.int .i64 na, .slice A n c] rfl ?_; intro w1 hB1 hb1 hy; have hz1 := hid hy; clear hy)
    | (refine wpList_bx rfl 24 _ rfl #[.int .i64 nb, .slice B m d] rfl ?_; intro w2 hB2 hb2 hy; clear hy; have X0 := hid (below_chain hb1 hb2); obtain ⟨a0, a1, _, _⟩ := two_facts (hB1.belowS hb2); obtain ⟨c0, c1, _, _⟩ := two_facts hB2))
  go_ret
  exact ⟨rfl, X0.out⟩

set_option maxRecDepth 100000 in
set_option maxHeartbeats 4000000 in
theorem hsame_all (na nb : Int) (A B : Option Addr) (n m c d : Nat) (rs ts : List RS) (w : World) (ra : HRd w A n rs) (rb : HRd w B m ts) (hs : ∀ s ∈ subs rs, s.2.2.1.length ≤ 1000) (h1k : n ≤ 1000) (h : (na == nb) = true) :
    Calls Tryd.prog 24 #[.agg #[.int .i64 na, .slice A n c], .agg #[.int .i64 nb, .slice B m d]] w (GivesB w (decide (subs rs = subs ts))) := by
  have hE := hid (fun W h k => equalF_any A B n m c d rs ts W h k hs h1k)
  have HA := hid ra
  have HB := hid rb
  clear ra rb hs
  have tok1 : True := trivial
  go_enter Tryd.func24, Tryd.ntmps24
  go_wp2_with (first
    | (clear tok1; refine wpList_bx rfl 24 _ rfl #[.int .i64 na, .slice A n c] rfl ?_; intro w1 hB1 hb1 hy; have hz1 := hid hy; clear hy)
    | (refine wpList_bx rfl 24 _ rfl #[.int .i64 nb, .slice B m d] rfl ?_; intro w2 hB2 hb2 hy; clear hy; have X0 := hid (below_chain hb1 hb2); obtain ⟨a0, a1, _, _⟩ := two_facts (hB1.belowS hb2); obtain ⟨c0, c1, _, _⟩ := two_facts hB2)
    | ((with_reducible refine (hE.out _ (HA.out.below X0.out) (HB.out.below X0.out)).mono ?_); rintro e w3 ⟨rfl, hb3⟩))
  go_ret
  exact ⟨rfl, below_chain X0.out hb3⟩
theorem hsame_any (h k : Hub) (A B : Option Addr) (n m c d : Nat) (w : World) (ra : HubIn w h A n) (rb : HubIn w k B m) (hs : ∀ s ∈ h.2, s.2.2.1.length ≤ 1000) (h1k : n ≤ 1000) :
    Calls Tryd.prog 24 #[.agg #[.int .i64 h.1, .slice A n c], .agg #[.int .i64 k.1, .slice B m d]] w (GivesB w (decide (h = k))) := by
  obtain ⟨rs, h1, h2⟩ := ra
  obtain ⟨ts, k1, k2⟩ := rb
  rw [← h2] at hs
  cases e : (h.1 == k.1) with
  | false =>
    rw [decide_eq_false fun e2 => by rw [e2] at e; simp at e]
    exact hsame_next h.1 k.1 A B n m c d rs ts w h1 k1 hs h1k e
  | true =>
    have e1 : h.1 = k.1 := by simpa using e
    have : decide (h = k) = decide (subs rs = subs ts) := by
      rw [h2, k2, Bool.eq_iff_iff, decide_eq_true_iff, decide_eq_true_iff]
      exact ⟨fun e3 => by rw [e3], fun e3 => Prod.ext e1 e3⟩
    rw [this]
    exact hsame_all h.1 k.1 A B n m c d rs ts w h1 k1 hs h1k e
end Go.Proofs.YtmepbokoopgmiaaDoor
