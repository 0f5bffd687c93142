/-
  Contract of hub.Tell. The gap stands in its variable.
-/
import Derived.Test.YtmepbokoopgmiaaDoorHubH
namespace Go.Proofs.YtmepbokoopgmiaaDoor
open Go.RowKit
set_option linter.unusedSimpArgs false
set_option linter.unusedVariables false

theorem Blk.rangeA {w : World} {g : Nat} {t : TypeId} {cs : Array Value} (h : Blk w g t cs) : w.rangeAt g 0 cs.toList := h.range_from 0 cs.toList (fun j _ => by simp)
theorem push_empty (room : Int) (e : Ev) (he : HdOk e.2.2) (w : World) (hG : GOk w) : Calls Tryd.prog 27 #[.agg #[.slice none 0 0, .bool false], .int .i64 room, .agg (evL e).toArray] w (GivesU w (pushT [] false room e)) :=
  push_any none 0 0 false [] itsOk_nil room e he w (Rd.nil _ _ _ _) (by omega) hG
theorem tell_keep {l : List Sub} {k : Nat} {s : Sub} (f : Sub → Sub) (h : l[k]? = some s) : (l.take k).map f ++ f s :: l.drop (k + 1) = (l.take (k + 1)).map f ++ l.drop (k + 1) := by
  obtain ⟨hk, e⟩ := List.getElem?_eq_some_iff.1 h
  rw [List.take_succ_eq_append_getElem hk, e, List.map_append, List.append_assoc]
  rfl
theorem tell_split {l : List Sub} {k : Nat} {s : Sub} (f : Sub → Sub) (h : l[k]? = some s) : (l.take k).map f ++ l.drop k = (l.take k).map f ++ s :: l.drop (k + 1) := by
  obtain ⟨hk, e⟩ := List.getElem?_eq_some_iff.1 h
  rw [List.drop_eq_getElem_cons hk, e]
theorem tell_at {l : List Sub} {k : Nat} (f : Sub → Sub) (hk : k < l.length) : ((l.take k).map f ++ l.drop k)[k]? = l[k]? := by
  rw [List.getElem?_append_right (by simp; omega), List.length_map, List.length_take, Nat.min_eq_left (by omega), Nat.sub_self, List.getElem?_drop, Nat.add_zero]
theorem tell_set {l : List Sub} {k : Nat} {s : Sub} (f : Sub → Sub) (h : l[k]? = some s) : ((l.take k).map f ++ l.drop k).set k (f s) = (l.take (k + 1)).map f ++ l.drop (k + 1) := by
  obtain ⟨hk, e⟩ := List.getElem?_eq_some_iff.1 h
  rw [tell_split f h, List.set_append_right _ _ (by simp; omega), List.length_map, List.length_take, Nat.min_eq_left (by omega), Nat.sub_self, List.set_cons_zero, tell_keep f h]

set_option maxRecDepth 100000 in
set_option maxHeartbeats 4000000 in
theorem htell_bad (nx : Int) (A : Option Addr) (n c : Nat) (rs : List RS) (room : Int) (e : Ev) (he : HdOk e.2.2) (w : World) (hr : HRd w A n rs) (hG : GOk w) (hm : hubMay (nx, subs rs) = false) :
    Calls Tryd.prog 7 #[.agg #[.int .i64 nx, .slice A n c], .int .i64 room, .agg (evL e).toArray] w (GivesL w (zeroHub, 8)) := by
  have hC := hid (fun W h k => hcheck_lit 8 nx A n c rs (by rw [hm]; rfl) W h k)
  have hP0 := hid (fun W k => push_empty room e he W k)
  have hszE := ev_sizeA e he
  have hszL := ev_size e he
  have hu34 := Tryd.underlying34
  have hE0 : (evL e).toArray[0]? = some (.int .i64 e.1) := rfl
  have HR := hid hr
  have HG := hid hG
  have hl := hid hr.len
  generalize hEL : evL e = EL at *
  clear hEL
  clear hr hG
  go_enter Tryd.func7, Tryd.ntmps7
  go_upto_region 1 with (first
    | (refine wpList_bx rfl 24 _ rfl #[.int .i64 nx, .slice A n c] rfl ?_; intro w1 hB1 hb1 hy; have hz1 := hid hy; clear hy)
    | (refine wpList_bx rfl 34 _ rfl EL.toArray rfl ?_; intro w2 hB2 hb2 hy; have hz2 := hid hy; clear hy)
    | ((with_reducible refine at_alloc (d := some 6) 24 ?_); refine wpList_al rfl 24 rfl _ (hub_zero _) ?_; intro w3 hB3 hb3 hy; have hz3 := hid hy; clear hy))
  have X0 := hid (below_chain (below_chain hb1 hb2) hb3)
  have X1 := hid ((hB1.belowS hb2).belowS hb3)
  have X2 := hid (hB2.belowS hb3)
  have X3 := hid hB3
  have hs1 : w.heap.size < w1.heap.size := by have := hz1.out; omega
  have hs2 : w1.heap.size < w2.heap.size := by have := hz2.out; omega
  have hs3 := hid hB3.lt
  clear hB1 hb1 hz1 hB2 hb2 hz2 hB3 hb3 hz3
  generalize w1.heap.size = ge at *
  generalize w2.heap.size = g2 at *
  obtain ⟨a0, a1, a2, a3⟩ := two_facts X1.out
  obtain ⟨c0, c1, c2, c3⟩ := two_facts X3.out
  go_wp2_with (first
    | ((with_reducible refine (hC.out _ (HR.out.below X0.out) (HG.out.below X0.out)).mono ?_); rintro e w4 ⟨rfl, hb4⟩; clear a0 a1 a2 a3 c0 c1 c2 c3; obtain ⟨a0, a1, a2, a3⟩ := two_facts (X1.out.belowS hb4); obtain ⟨c0, c1, c2, c3⟩ := two_facts (X3.out.belowS hb4); have Xe := X2.out.belowS hb4; have HG4 := (HG.out.below X0.out).below hb4)
    | ((with_reducible refine at_build 24 ?_); refine wpList_bd rfl 24 rfl _ (hub_built _) ?_))
  have B := (X3.out.belowS hb4).both (c := .int .i64 0) (d := .slice none 0 0)
  have hbf := below_both (g := g2) (below_chain X0.out hb4) (.int .i64 0) (.slice none 0 0) (by omega)
  generalize (w4.setCell ⟨g2, 0, none⟩ (.int .i64 0)).setCell ⟨g2, 1, none⟩ (.slice none 0 0) = wf at *
  obtain ⟨g0, g1, _, _⟩ := two_facts B
  exact bodyPost_ret (v := .tuple #[.agg #[.int .i64 0, .slice none 0 0], .int .i64 8]) (by simp [results, Tryd.f7, go_sem, g0, g1]) rfl ⟨none, 0, 0, [], rfl, rfl, HOwn.nil _ _ _, hbf⟩

set_option maxRecDepth 100000 in
set_option maxHeartbeats 4000000 in
theorem htell_err (nx : Int) (A : Option Addr) (n c : Nat) (rs : List RS) (room : Int) (e : Ev) (he : HdOk e.2.2) (w : World) (hr : HRd w A n rs) (hG : GOk w) (hm : hubMay (nx, subs rs) = true) (pr : List It × Bool × Int) (hp : pushT [] false room e = pr) (hq : (pr.2.2 == 0) = false) :
    Calls Tryd.prog 7 #[.agg #[.int .i64 nx, .slice A n c], .int .i64 room, .agg (evL e).toArray] w (GivesL w (zeroHub, pr.2.2)) := by
  have hC := hid (fun W h k => hcheck_lit 0 nx A n c rs (by rw [hm]; rfl) W h k)
  have hP0 := hid (fun W k => push_empty room e he W k)
  have hszE := ev_sizeA e he
  have hszL := ev_size e he
  have hu34 := Tryd.underlying34
  have hE0 : (evL e).toArray[0]? = some (.int .i64 e.1) := rfl
  have HR := hid hr
  have HG := hid hG
  have hl := hid hr.len
  rw [hp] at hP0
  obtain ⟨pxs, pl, er⟩ := pr
  simp only at hq hP0 ⊢
  unfold GivesU at hP0
  generalize hEL : evL e = EL at *
  clear hEL
  clear hr hG
  go_enter Tryd.func7, Tryd.ntmps7
  go_upto_region 1 with (first
    | (refine wpList_bx rfl 24 _ rfl #[.int .i64 nx, .slice A n c] rfl ?_; intro w1 hB1 hb1 hy; have hz1 := hid hy; clear hy)
    | (refine wpList_bx rfl 34 _ rfl EL.toArray rfl ?_; intro w2 hB2 hb2 hy; have hz2 := hid hy; clear hy)
    | ((with_reducible refine at_alloc (d := some 6) 24 ?_); refine wpList_al rfl 24 rfl _ (hub_zero _) ?_; intro w3 hB3 hb3 hy; have hz3 := hid hy; clear hy))
  have X0 := hid (below_chain (below_chain hb1 hb2) hb3)
  have X1 := hid ((hB1.belowS hb2).belowS hb3)
  have X2 := hid (hB2.belowS hb3)
  have X3 := hid hB3
  have hs1 : w.heap.size < w1.heap.size := by have := hz1.out; omega
  have hs2 : w1.heap.size < w2.heap.size := by have := hz2.out; omega
  have hs3 := hid hB3.lt
  clear hB1 hb1 hz1 hB2 hb2 hz2 hB3 hb3 hz3
  generalize w1.heap.size = ge at *
  generalize w2.heap.size = g2 at *
  obtain ⟨a0, a1, a2, a3⟩ := two_facts X1.out
  obtain ⟨c0, c1, c2, c3⟩ := two_facts X3.out
  go_wp2_with (first
    | ((with_reducible refine (hC.out _ (HR.out.below X0.out) (HG.out.below X0.out)).mono ?_); rintro e w4 ⟨rfl, hb4⟩; clear a0 a1 a2 a3 c0 c1 c2 c3; obtain ⟨a0, a1, a2, a3⟩ := two_facts (X1.out.belowS hb4); obtain ⟨c0, c1, c2, c3⟩ := two_facts (X3.out.belowS hb4); have Xe := X2.out.belowS hb4; have HG4 := (HG.out.below X0.out).below hb4)
    | ((with_reducible refine at_build 24 ?_); refine wpList_bd rfl 24 rfl _ (hub_built _) ?_)
    | ((with_reducible refine at_build 47 ?_); refine wpList_bd rfl 47 rfl _ (tap_built _) ?_)
    | ((with_reducible refine at_load 34 ?_); refine wpList_ldr rfl 34 _ rfl ge rfl _ EL.toArray _ Xe Tryd.underlying34 rfl hszE ?_)
    | ((with_reducible refine (hP0.out _ HG4).mono ?_); rintro e w5 ⟨D0, m0, d0, rfl, hF0, hb5⟩)
    | ((with_reducible refine at_alloc (d := some 9) 47 ?_); refine wpList_al rfl 47 rfl _ (tap_zero _) ?_; intro w6 hB6 hb6 hy; clear hy)
    | ((with_reducible refine at_store 47 ?_); refine wpList_str rfl 47 _ _ rfl w5.heap.size _ rfl rfl _ _ hB6 rfl (tap_size _ _) (one_tap _ _ _ _) ?_; intro w7 hB7 hg7 hy; clear hy; have hb57 : Below w5.heap.size w5 w7 := hb6.grown hg7 hb6.size (by intro k e; cases e; exact Nat.le_refl _); have hb47 := below_chain hb5 hb57; clear a0 a1 a2 a3 c0 c1 c2 c3 Xe HG4; obtain ⟨a0, a1, a2, a3⟩ := two_facts ((X1.out.belowS hb4).belowS hb47); obtain ⟨c0, c1, c2, c3⟩ := two_facts ((X3.out.belowS hb4).belowS hb47)))
  have B := ((X3.out.belowS hb4).belowS hb47).both (c := .int .i64 0) (d := .slice none 0 0)
  have hbf := below_both (g := g2) (below_chain (below_chain X0.out hb4) hb47) (.int .i64 0) (.slice none 0 0) (by omega)
  generalize (w7.setCell ⟨g2, 0, none⟩ (.int .i64 0)).setCell ⟨g2, 1, none⟩ (.slice none 0 0) = wf at *
  obtain ⟨g0, g1, _, _⟩ := two_facts B
  exact bodyPost_ret (v := .tuple #[.agg #[.int .i64 0, .slice none 0 0], .int .i64 er]) (by simp [results, Tryd.f7, go_sem, g0, g1]) rfl ⟨none, 0, 0, [], rfl, rfl, HOwn.nil _ _ _, hbf⟩

set_option maxRecDepth 100000 in
set_option maxHeartbeats 4000000 in
theorem htell_ok (nx : Int) (A : Option Addr) (n c : Nat) (rs : List RS) (room : Int) (e : Ev) (he : HdOk e.2.2) (w : World) (hr : HRd w A n rs) (hG : GOk w) (hm : hubMay (nx, subs rs) = true) (hp : (pushT [] false room e).2.2 = 0) :
    Calls Tryd.prog 7 #[.agg #[.int .i64 nx, .slice A n c], .int .i64 room, .agg (evL e).toArray] w (GivesL w ((nx, (subs rs).map (tellST room e)), 0)) := by
  have hC := hid (fun W h k => hcheck_lit 0 nx A n c rs (by rw [hm]; rfl) W h k)
  have hP0 := hid (fun W k => push_empty room e he W k)
  have hszE := ev_sizeA e he
  have hszL := ev_size e he
  have hu34 := Tryd.underlying34
  have hE0 : (evL e).toArray[0]? = some (.int .i64 e.1) := rfl
  have HR := hid hr
  have HG := hid hG
  have hl := hid hr.len
  have hnx := isNum_iff.1 (hubMay_parts hm).1
  have hn16 : n ≤ 16 := by have := (hubMay_parts hm).2.1; have := hr.len; simp [subs] at *; omega
  have hT := hid (fun W (h : HRd W A n rs) => htwin_any nx A n c rs W h (by omega) (hubMay_its hm))
  have hPu := hid (fun A n c lost xs ho W h k (hn : n ≤ 1000) => push_any A n c lost xs ho room e he W h hn k)
  have hits := hid (hubMay_its hm)
  generalize hpr : pushT [] false room e = pr at *
  obtain ⟨pxs, pl, er⟩ := pr
  simp only at hp
  subst hp
  unfold GivesU at hP0
  simp only at hP0
  clear hpr
  have hok := hid (fun xs l (ho : ItsOk xs) => pushT_ok ho l room e he)
  obtain ⟨f, hf⟩ : ∃ f : Sub → Sub, f = tellST room e := ⟨_, rfl⟩
  have HF := hid hf
  rw [← hf]
  clear hf
  have hsz53 := rs_size
  have hzs := zeroS_run
  have hsA : (Tryd.prog.info? 53).map (·.size) = some zeroS.size := sub_size _ _ _ _
  generalize hEL : evL e = EL at *
  have HEL := hid hEL
  clear hEL
  clear hr hG
  go_enter Tryd.func7, Tryd.ntmps7
  go_upto_region 1 with (first
    | (refine wpList_bx rfl 24 _ rfl #[.int .i64 nx, .slice A n c] rfl ?_; intro w1 hB1 hb1 hy; have hz1 := hid hy; clear hy)
    | (refine wpList_bx rfl 34 _ rfl EL.toArray rfl ?_; intro w2 hB2 hb2 hy; have hz2 := hid hy; clear hy)
    | ((with_reducible refine at_alloc (d := some 6) 24 ?_); refine wpList_al rfl 24 rfl _ (hub_zero _) ?_; intro w3 hB3 hb3 hy; have hz3 := hid hy; clear hy))
  have X0 := hid (below_chain (below_chain hb1 hb2) hb3)
  have X1 := hid ((hB1.belowS hb2).belowS hb3)
  have X2 := hid (hB2.belowS hb3)
  have X3 := hid hB3
  have hs1 : w.heap.size < w1.heap.size := by have := hz1.out; omega
  have hs2 : w1.heap.size < w2.heap.size := by have := hz2.out; omega
  have hs3 := hid hB3.lt
  clear hB1 hb1 hz1 hB2 hb2 hz2 hB3 hb3 hz3
  generalize w1.heap.size = ge at *
  generalize w2.heap.size = g2 at *
  obtain ⟨a0, a1, a2, a3⟩ := two_facts X1.out
  obtain ⟨c0, c1, c2, c3⟩ := two_facts X3.out
  go_wp2_with (first
    | ((with_reducible refine (hC.out _ (HR.out.below X0.out) (HG.out.below X0.out)).mono ?_); rintro e w4 ⟨rfl, hb4⟩; clear a0 a1 a2 a3 c0 c1 c2 c3; obtain ⟨a0, a1, a2, a3⟩ := two_facts (X1.out.belowS hb4); obtain ⟨c0, c1, c2, c3⟩ := two_facts (X3.out.belowS hb4); have Xe := X2.out.belowS hb4; have HG4 := (HG.out.below X0.out).below hb4)
    | ((with_reducible refine at_build 24 ?_); refine wpList_bd rfl 24 rfl _ (hub_built _) ?_)
    | ((with_reducible refine at_build 47 ?_); refine wpList_bd rfl 47 rfl _ (tap_built _) ?_)
    | ((with_reducible refine at_load 34 ?_); refine wpList_ldr rfl 34 _ rfl ge rfl _ EL.toArray _ Xe Tryd.underlying34 rfl hszE ?_)
    | ((with_reducible refine (hP0.out _ HG4).mono ?_); rintro e w5 ⟨D0, m0, d0, rfl, hF0, hb5⟩)
    | ((with_reducible refine at_alloc (d := some 9) 47 ?_); refine wpList_al rfl 47 rfl _ (tap_zero _) ?_; intro w6 hB6 hb6 hy; clear hy)
    | ((with_reducible refine at_store 47 ?_); refine wpList_str rfl 47 _ _ rfl w5.heap.size _ rfl rfl _ _ hB6 rfl (tap_size _ _) (one_tap _ _ _ _) ?_; intro w7 hB7 hg7 hy; clear hy; have hb57 : Below w5.heap.size w5 w7 := hb6.grown hg7 hb6.size (by intro k e; cases e; exact Nat.le_refl _); have hb47 := below_chain hb5 hb57; clear a0 a1 a2 a3 c0 c1 c2 c3 Xe HG4; obtain ⟨a0, a1, a2, a3⟩ := two_facts ((X1.out.belowS hb4).belowS hb47); obtain ⟨c0, c1, c2, c3⟩ := two_facts ((X3.out.belowS hb4).belowS hb47))
    | ((with_reducible refine (hT.out _ (HR.out.below (below_chain (below_chain X0.out hb4) hb47))).mono ?_); rintro e w8 ⟨D, m, d, rs', rfl, hsub, hO, hb8⟩)
    | ((with_reducible refine at_alloc (d := some 11) 24 ?_); refine wpList_al rfl 24 rfl _ (hub_zero _) ?_; intro w9 hB9 hb9 hy; clear hy; clear a0 a1 a2 a3 c0 c1 c2 c3; obtain ⟨d0, d1, d2, d3⟩ := two_facts hB9))
  have hm16 : m ≤ 16 := sub_count hsub hO hl.out hn16
  have hml := hid (show m = (subs rs).length by rw [← hsub]; have := hO.len; simp [subs] at *; omega)
  have hA9 := hO.apart (Nat.le_refl w8.heap.size)
  have hCh := chg_both w9 w8.heap.size (.int .i64 nx) (.slice D m d)
  have hO6 := (hO.below hb9).chgA hA9 hCh
  have B9 : Blk ((w9.setCell ⟨w8.heap.size, 0, none⟩ (.int .i64 nx)).setCell ⟨w8.heap.size, 1, none⟩ (.slice D m d)) w8.heap.size 24 #[.int .i64 nx, .slice D m d] := hB9.both
  have hlo : g2 < w7.heap.size := by have := hs3.out; have := hb4.size; have := hb47.size; omega
  have hlo4 : w7.heap.size ≤ w8.heap.size := hb8.size
  have hb07 := below_chain (below_chain X0.out hb4) hb47
  have hlw : w.heap.size ≤ w7.heap.size := hb07.size
  have hb09 := below_chain (below_chain hb07 hb8) hb9
  have hb010 := below_chgA hb09 hCh (by omega)
  have X2 := hid (hCh.blk ((((X2.out.belowS hb4).belowS hb47).belowS hb8).belowS hb9) (by omega))
  have X3 := hid (hCh.blk ((((X3.out.belowS hb4).belowS hb47).belowS hb8).belowS hb9) (by omega))
  have X0 := hid hb010
  clear hB9 hb9 hb09 hb010 hCh hO d0 d1 d2 d3 hB6 hb6 hB7 hg7 hb57 hb5 hF0 hb07 hb8 X1
  generalize (w9.setCell ⟨w8.heap.size, 0, none⟩ (.int .i64 nx)).setCell ⟨w8.heap.size, 1, none⟩ (.slice D m d) = w10 at *
  have hg9 := hid B9.lt
  generalize w8.heap.size = g9 at *
  generalize w7.heap.size = lo at *
  obtain ⟨d0, d1, d2, d3⟩ := two_facts B9
  have HS := hid hsub
  have h0 : subs rs' = ((subs rs).take 0).map f ++ (subs rs).drop 0 := by simpa using hsub
  clear hsub
  go_wp2_with fail
  go_loopw [36] (fun i wx => ∃ (k : Nat) (rk : List RS), k ≤ m ∧ i = .int .i64 k ∧ Blk wx g9 24 #[.int .i64 nx, .slice D m d] ∧ HOwn wx lo D m d rk ∧ HApart g9 D d rk ∧ subs rk = ((subs rs).take k).map f ++ (subs rs).drop k ∧ Blk wx ge 34 EL.toArray ∧ Blk wx g2 24 #[.int .i64 0, .slice none 0 0] ∧ Below w.heap.size w wx) (fun i _ => m - (intOf i).toNat)
  case atStart => exact ⟨0, rs', Nat.zero_le _, rfl, B9, hO6, hA9, h0, X2.out, X3.out, X0.out⟩
  case round =>
    clear h0 B9 hO6 hA9 d0 d1 d2 d3 X2 X3 X0
    obtain ⟨k, rk, hk, rfl, hB, hO, hA, hS, hE, hZ, hb⟩ := hrel
    obtain ⟨d0, d1, d2, d3⟩ := two_facts hB
    have HB := hid hB
    have HO := hid hO
    have HA := hid hA
    have HSk := hid hS
    have HE := hid hE
    have HZ := hid hZ
    have Hb := hid hb
    clear hB hO hA hS hE hZ hb
    by_cases hlt : k < m
    · have hx : rk[k]? = some (rk[k]'(by have := HO.out.len; omega)) := List.getElem?_eq_getElem _
      generalize rk[k]'(by have := HO.out.len; omega) = r at hx
      obtain ⟨g, hD, hrow, hlg, hgl⟩ := HO.out.1.base (by omega)
      subst hD
      obtain ⟨t0, t1, t2, t3, f0, f1, f2, f3⟩ := HO.out.1.tapAt hx
      have hsx : (subs rs)[k]? = some r.1 := by
        have h1 : (subs rk)[k]? = some r.1 := by simp [subs, hx]
        rw [HSk.out, tell_at f (by have := hml.out; omega)] at h1
        exact h1
      have hri := hid (HO.out.2 r (List.mem_of_getElem? hx)).at_
      have hlen := hits.out r.1 (List.mem_of_getElem? hsx)
      have hml' : r.2.2.1 ≤ 1000 := by have := rd_len hri.out.1 hri.out.2; omega
      have rx : wr.rangeAt g (k * 4) (rsL r) := by
        intro j v hv
        have hj : j < 4 := (List.getElem?_eq_some_iff.1 hv).1
        obtain ⟨u, h1, h2, _⟩ := HO.out.1.at_ (k := k * 4 + j) (by omega)
        rw [rssL_at rk k r hx j hj, hv] at h1
        cases h1
        exact h2
      have hX0 : (rsL r).toArray.size = zeroS.size := rfl
      have hXo : ∀ v ∈ (rsL r).toArray, v.oneCell' = true := fun v hv => rsL_one r v (by simpa using hv)
      have hszr := hsz53 r
      have HX := hid hx
      have HSX := hid hsx
      have hti : (k : Int) < (m : Int) := by omega
      have htz : (0 : Int) ≤ (k : Int) := by omega
      have hPr := hid (fun W (h : SubAt W r) k => hPu.out r.2.1 r.2.2.1 r.2.2.2 r.1.2.2.2 r.1.2.2.1 h.1 W h.2 k hml')
      have hfr : f r.1 = if r.1.2.1 < e.1 then (r.1.1, r.1.2.1, (pushT r.1.2.2.1 r.1.2.2.2 room e).1, (pushT r.1.2.2.1 r.1.2.2.2 room e).2.1) else r.1 := by rw [HF.out]; rfl
      have HFR := hid hfr
      have hpok := hok.out r.1.2.2.1 r.1.2.2.2 hri.out.1
      clear hx hsx hlen hfr t0 t1 t2 t3 f0 f1 f2 f3
      obtain ⟨⟨id, fr, its, lost⟩, F, mf, cf⟩ := r
      simp only at hPr hpok HFR
      have hpost : Hid (∀ w' w5, Below wr.heap.size wr w' → w'.grownBy w5 (some wr.heap.size) → Blk w5 wr.heap.size 53 (rsL ((id, fr, its, lost), F, mf, cf)).toArray → Below wr.heap.size wr w5 ∧ w5.cell? ⟨wr.heap.size, 0, none⟩ = some (.int .i64 id) ∧ w5.cell? ⟨wr.heap.size, 1, none⟩ = some (.int .i64 fr) ∧ w5.cell? ⟨wr.heap.size, 2, none⟩ = some (.slice F mf cf) ∧ w5.cell? ⟨wr.heap.size, 3, none⟩ = some (.bool lost) ∧ w5.cell? ⟨ge, 0, none⟩ = some (.int .i64 e.1) ∧ w5.cell? ⟨g9, 1, none⟩ = some (.slice (some ⟨g, 0, none⟩) m d)) := hid fun w' w5 h1 h2 h3 => by
        have hb5 : Below wr.heap.size wr w5 := h1.grown h2 h1.size (by intro g e; cases e; exact Nat.le_refl _)
        exact ⟨hb5, h3.cellv rfl, h3.cellv rfl, h3.cellv rfl, h3.cellv rfl, (HE.out.belowS hb5).cellv hE0, (HB.out.belowS hb5).cellv rfl⟩
      by_cases hcmp : fr < e.1
      · rw [if_pos hcmp] at HFR
        go_wp2_with (first
          | ((with_reducible refine at_load 53 ?_); refine wpList_load_mid rfl 53 _ rfl g (k * 4) rfl _ _ rx Tryd.underlying53 rfl hszr ?_)
          | ((with_reducible refine at_alloc 53 ?_); refine wpList_al rfl 53 rfl zeroS (hzs _) ?_; intro v4 hX4 hv4 hy; clear hy)
          | ((with_reducible refine at_store 53 ?_); refine wpList_str rfl 53 _ _ rfl wr.heap.size (rsL ((id, fr, its, lost), F, mf, cf)).toArray rfl rfl _ zeroS hX4 hX0 hsA hXo ?_; intro v5 hX5 hg5 hy; clear hy; obtain ⟨hv5, e0, e1, e2, e3, e4, e5⟩ := hpost.out v4 v5 hv4 hg5 hX5))
        have HOv := hid (HO.out.below hv5)
        have HB9 := hid (HB.out.belowS hv5)
        have HEv := hid (HE.out.belowS hv5)
        have HZv := hid (HZ.out.belowS hv5)
        have Hbv := hid (below_chain Hb.out hv5)
        have SA := (SubAt.below (hri.out.below hv5) (below_self_drew v5))
        have GA := (HG.out.below Hbv.out).below (below_self_drew v5)
        have hgl5 : g < v5.heap.size := by have := hv5.size; omega
        have hg95 := HB9.out.lt
        have hne9 : g9 ≠ g := fun e => HA.out.1 (by rw [hrow, e])
        have hlov : lo ≤ v5.heap.size := by omega
        have hPq := hPr
        unfold GivesU at hPq
        have hr0 := HEv.out.drew.range0
        clear HB HO HE HZ Hb hPr hpost d0 d1 d2 d3 rx
        generalize pushT its lost room e = pt at *
        obtain ⟨pxs, pl', er'⟩ := pt
        simp only at hPq hpok HFR
        refine wp_region_F_drew 13 (S := (fun w' => w'.cell? ⟨g9, 1, none⟩ = some (.slice (some ⟨g, 0, none⟩) m d) ∧ w'.cell? ⟨wr.heap.size, 2, none⟩ = some (.slice F mf cf) ∧ w'.cell? ⟨wr.heap.size, 3, none⟩ = some (.bool lost) ∧ w'.rangeAt ge 0 EL)) (by kernel_rfl) ⟨e5, e2, e3, hr0⟩ (fun hHeld => ?_)
        refine regF_take (v := ?_) 0 (by kernel_rfl) (by rfl) rfl (by kernel_rfl) (by kernel_rfl) (by kernel_rfl) (fun _ _ _ h => h) (Or.inl ⟨by rfl, ?_⟩) (by assumption) ?_; rotate_left; (intro w hSw; (try dsimp only at hSw); go_simp); (try with_reducible rfl); (try simp only [Act.put, List.setIfInBounds_toArray, List.set_cons_zero, List.set_cons_succ])
        refine regF_take (v := ?_) 1 (by kernel_rfl) (by rfl) rfl (by kernel_rfl) (by kernel_rfl) (by kernel_rfl) (fun _ _ _ h => h) (Or.inl ⟨by rfl, ?_⟩) (by assumption) ?_; rotate_left; (intro w hSw; (try dsimp only at hSw); go_simp); (try with_reducible rfl); (try simp only [Act.put, List.setIfInBounds_toArray, List.set_cons_zero, List.set_cons_succ])
        refine regF_take (v := ?_) 2 (by kernel_rfl) (by rfl) rfl (by kernel_rfl) (by kernel_rfl) (by kernel_rfl) (fun _ _ _ h => h) (Or.inl ⟨by rfl, ?_⟩) (by assumption) ?_; rotate_left; (intro w hSw; (try dsimp only at hSw); go_simp); (try with_reducible rfl); (try simp only [Act.put, List.setIfInBounds_toArray, List.set_cons_zero, List.set_cons_succ])
        refine regF_take (v := ?_) 3 (by kernel_rfl) (by rfl) rfl (by kernel_rfl) (by kernel_rfl) (by kernel_rfl) (fun _ _ _ h => h) (Or.inl ⟨by rfl, ?_⟩) (by assumption) ?_; rotate_left; (intro w hSw; (try dsimp only at hSw); go_simp); (try with_reducible rfl); (try simp only [Act.put, List.setIfInBounds_toArray, List.set_cons_zero, List.set_cons_succ])
        refine regF_take (v := ?_) 4 (by kernel_rfl) (by rfl) rfl (by kernel_rfl) (by kernel_rfl) (by kernel_rfl) (fun _ _ _ h => h) (Or.inl ⟨by rfl, ?_⟩) (by assumption) ?_; rotate_left; (intro w hSw; (try dsimp only at hSw); go_simp); (try with_reducible rfl); (try simp only [Act.put, List.setIfInBounds_toArray, List.set_cons_zero, List.set_cons_succ])
        refine regF_take (v := ?_) 5 (by kernel_rfl) (by rfl) rfl (by kernel_rfl) (by kernel_rfl) (by kernel_rfl) (fun _ _ _ h => h) (Or.inl ⟨by rfl, ?_⟩) (by assumption) ?_; rotate_left; (intro w hSw; (try dsimp only at hSw); go_simp); (try with_reducible rfl); (try simp only [Act.put, List.setIfInBounds_toArray, List.set_cons_zero, List.set_cons_succ])
        refine regF_take 6 (by kernel_rfl) (by rfl) rfl (by kernel_rfl) (by kernel_rfl) (by kernel_rfl) (fun _ _ _ h => h) (yieldsIf_load_mid (by rfl) _ _ rfl _ _ rfl _ _ (by intro w hSw; (try dsimp only at hSw); go_split_ands; assumption) (by assumption) (by rfl) (by assumption)) (by assumption) ?_; (try simp only [Act.put, List.setIfInBounds_toArray, List.set_cons_zero, List.set_cons_succ])
        refine regF_only 7 rfl (by kernel_rfl) (fun K hK => ?_); go_simp; refine (hPq.out _ SA GA).mono ?_; rintro e' w5' ⟨D', m', c', rfl, hF5, hb5⟩; have hbd := below_chain (below_self_drew v5) hb5; obtain ⟨p0, p1, p2, p3⟩ := two_facts (HB9.out.belowS hbd); have hX5' := hX5.belowS hbd; have q2 := hX5'.cellv (i := 2) (v := .slice F mf cf) rfl; have q3 := hX5'.cellv (i := 3) (v := .bool lost) rfl; have qe := (HEv.out.belowS hbd).range0; obtain ⟨_, _, t2, t3, _, _, f2, f3⟩ := (HOv.out.below hbd).1.tapAt HX.out; refine hK.out _ _ ?_ (fun hHeld => ?_); (exact ⟨p1, q2, q3, qe⟩); clear hK K; (try simp only [Act.put, List.setIfInBounds_toArray, List.set_cons_zero, List.set_cons_succ])
        refine regF_take (v := ?_) 8 (by kernel_rfl) (by rfl) rfl (by kernel_rfl) (by kernel_rfl) (by kernel_rfl) (fun _ _ _ h => h) (Or.inl ⟨by rfl, ?_⟩) (by assumption) ?_; rotate_left; (intro w hSw; (try dsimp only at hSw); go_simp); (try with_reducible rfl); (try simp only [Act.put, List.setIfInBounds_toArray, List.set_cons_zero, List.set_cons_succ])
        refine regF_take (v := ?_) 9 (by kernel_rfl) (by rfl) rfl (by kernel_rfl) (by kernel_rfl) (by kernel_rfl) (fun _ _ _ h => h) (Or.inl ⟨by rfl, ?_⟩) (by assumption) ?_; rotate_left; (intro w hSw; (try dsimp only at hSw); go_simp); (try with_reducible rfl); (try simp only [Act.put, List.setIfInBounds_toArray, List.set_cons_zero, List.set_cons_succ])
        refine regF_takeT (v := ?_) 10 (by decide) rfl (by kernel_rfl) (by kernel_rfl) (by kernel_rfl) (fun _ _ _ h => h) (Or.inl ⟨by rfl, ?_⟩) (by assumption) ?_; rotate_left; (intro w hSw; clear hSw; go_simp); (try with_reducible rfl); (try simp only [Act.put, List.setIfInBounds_toArray, List.set_cons_zero, List.set_cons_succ])
        refine regF_takeT (v := ?_) 11 (by decide) rfl (by kernel_rfl) (by kernel_rfl) (by kernel_rfl) (fun _ _ _ h => h) (Or.inl ⟨by rfl, ?_⟩) (by assumption) ?_; rotate_left; (intro w hSw; clear hSw; go_simp); (try with_reducible rfl); (try simp only [Act.put, List.setIfInBounds_toArray, List.set_cons_zero, List.set_cons_succ])
        refine regF_take (v := ?_) 12 (by kernel_rfl) (by rfl) rfl (by kernel_rfl) (by kernel_rfl) (by kernel_rfl) (fun _ _ _ h => h) (Or.inl ⟨by rfl, ?_⟩) (by assumption) ?_; rotate_left; (intro w hSw; (try dsimp only at hSw); go_simp); (try with_reducible rfl); (try simp only [Act.put, List.setIfInBounds_toArray, List.set_cons_zero, List.set_cons_succ])
        refine regF_last 13 rfl rfl (by kernel_rfl) (fun K hK => ?_); go_simp; skip; refine hK.out _ _ (fun _ => ?_); clear hK K; (try simp only [Act.put, List.setIfInBounds_toArray, List.set_cons_zero, List.set_cons_succ])
        refine wpAnyF_done (by kernel_rfl) ?_ _
        have hF5' : Fr w5' v5.heap.size 101 D' m' (itsL pxs) := hF5
        have hCg := tap_set_chg w5' g (k * 4 + 2) (k * 4 + 2 + 1) (.slice D' m' c') (.bool pl')
        have H1 := hid (hown_settap (l := pl') (c' := c') HOv.out hrow HX.out hbd hlov hgl5 hpok hF5')
        have H2 := hid (hapart_set (k := k) (c' := c') (s := (id, fr, pxs, pl')) HA.out hF5' hg95)
        have H3 := hid (hCg.blk (HB9.out.belowS hbd) hne9)
        have H4 := hid (hCg.blk (HEv.out.belowS hbd) (by omega))
        have H5 := hid (hCg.blk (HZv.out.belowS hbd) (by omega))
        have H6 := hid (below_of_chg (below_chain Hbv.out hbd) hCg (fun b e => by omega))
        generalize (w5'.setCell ⟨g, k * 4 + 2, none⟩ (.slice D' m' c')).setCell ⟨g, k * 4 + 2 + 1, none⟩ (.bool pl') = w6 at *
        clear p0 p1 p2 p3 q2 q3 qe t2 t3 f2 f3 hHeld hb5 hbd hF5 hF5' hCg HB9 HEv HOv hX5' hr0 e0 e1 e2 e3 e4 e5 SA GA
        go_wp2_with fail
        refine ⟨⟨k + 1, _, by omega, by go_num, H3.out, H1.out, H2.out, ?_, H4.out, H5.out, H6.out⟩, by simp [intOf]; omega⟩
        rw [subs_set, HSk.out, ← HFR.out]
        exact tell_set f HSX.out
      · rw [if_neg hcmp] at HFR
        go_wp2_with (first
          | ((with_reducible refine at_load 53 ?_); refine wpList_load_mid rfl 53 _ rfl g (k * 4) rfl _ _ rx Tryd.underlying53 rfl hszr ?_)
          | ((with_reducible refine at_alloc 53 ?_); refine wpList_al rfl 53 rfl zeroS (hzs _) ?_; intro v4 hX4 hv4 hy; clear hy)
          | ((with_reducible refine at_store 53 ?_); refine wpList_str rfl 53 _ _ rfl wr.heap.size (rsL ((id, fr, its, lost), F, mf, cf)).toArray rfl rfl _ zeroS hX4 hX0 hsA hXo ?_; intro v5 hX5 hg5 hy; clear hy; obtain ⟨hv5, e0, e1, e2, e3, e4, e5⟩ := hpost.out v4 v5 hv4 hg5 hX5))
        refine ⟨⟨k + 1, rk, by omega, by go_num, HB.out.belowS hv5, HO.out.below hv5, HA.out, ?_, HE.out.belowS hv5, HZ.out.belowS hv5, below_chain Hb.out hv5⟩, by simp [intOf]; omega⟩
        have h3 := tell_keep f HSX.out
        rw [HFR.out] at h3
        rw [HSk.out, tell_split f HSX.out, h3]
    · obtain rfl : k = m := by omega
      have hti : ¬ (k : Int) < (k : Int) := by omega
      obtain ⟨c0, c1, c2, c3⟩ := two_facts HZ.out
      go_wp2_with fail
      have B := HZ.out.both (c := .int .i64 nx) (d := .slice D k d)
      have hCg := chg_both wr g2 (.int .i64 nx) (.slice D k d)
      have hOf := HO.out.chg hCg (fun b hb e => by omega)
      have hbf := below_both (g := g2) Hb.out (.int .i64 nx) (.slice D k d) (by omega)
      generalize (wr.setCell ⟨g2, 0, none⟩ (.int .i64 nx)).setCell ⟨g2, 1, none⟩ (.slice D k d) = wf at *
      obtain ⟨g0, g1, _, _⟩ := two_facts B
      refine bodyPost_ret (v := .tuple #[.agg #[.int .i64 nx, .slice D k d], .int .i64 0]) (by simp [results, Tryd.f7, go_sem, g0, g1]) rfl ⟨D, k, d, rk, rfl, ?_, hOf.low (by omega), hbf⟩
      rw [HSk.out, hml.out, List.take_length, List.drop_length, List.append_nil]

theorem htell_any (nx : Int) (A : Option Addr) (n c : Nat) (rs : List RS) (room : Int) (e : Ev) (he : HdOk e.2.2) (w : World) (hr : HRd w A n rs) (hG : GOk w) :
    Calls Tryd.prog 7 #[.agg #[.int .i64 nx, .slice A n c], .int .i64 room, .agg (evL e).toArray] w (GivesL w (tellT (nx, subs rs) room e)) := by
  unfold tellT
  cases hm : hubMay (nx, subs rs) with
  | false => exact htell_bad nx A n c rs room e he w hr hG hm
  | true =>
    rw [if_pos rfl]
    by_cases hp : (pushT [] false room e).2.2 = 0
    · rw [if_pos hp]
      exact htell_ok nx A n c rs room e he w hr hG hm hp
    · rw [if_neg hp]
      exact htell_err nx A n c rs room e he w hr hG hm _ rfl (by simpa using hp)
end Go.Proofs.YtmepbokoopgmiaaDoor
