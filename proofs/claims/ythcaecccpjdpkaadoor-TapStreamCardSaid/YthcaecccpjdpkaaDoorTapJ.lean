/-
  The walk of the law TapStream. No condition but that the gap stands in its variable.
-/
import Derived.Test.YthcaecccpjdpkaaDoorTapI
namespace Go.Proofs.YthcaecccpjdpkaaDoor
open Go.RowKit
set_option linter.unusedSimpArgs false
set_option linter.unusedVariables false

set_option maxRecDepth 100000 in
set_option maxHeartbeats 1000000 in
theorem tstream_out (room : Int) (S : Option Addr) (k ck : Nat) (w : World) (hG : GOk w) (h : room < 1 ∨ 64 < room ∨ 60 < k) :
    Calls Tryd.prog 4 #[.int .i64 room, .slice S k ck] w fun e w' => e = .returned (.bool true) ∧ Below w.heap.size w w' := by
  have hAl := hid (alive_any w hG)
  clear hG
  rcases h with h | h | h
  · go_enter Tryd.func4, Tryd.ntmps4
    go_wp2_with ((with_reducible refine (hAl.out).mono ?_); rintro e w1 ⟨rfl, hb1⟩)
    go_ret
    exact ⟨rfl, hb1⟩
  · by_cases h0 : room < 1
    · omega
    · go_enter Tryd.func4, Tryd.ntmps4
      go_wp2_with ((with_reducible refine (hAl.out).mono ?_); rintro e w1 ⟨rfl, hb1⟩)
      go_ret
      exact ⟨rfl, hb1⟩
  · by_cases h0 : room < 1
    · go_enter Tryd.func4, Tryd.ntmps4
      go_wp2_with ((with_reducible refine (hAl.out).mono ?_); rintro e w1 ⟨rfl, hb1⟩)
      go_ret
      exact ⟨rfl, hb1⟩
    · by_cases h1 : 64 < room
      · go_enter Tryd.func4, Tryd.ntmps4
        go_wp2_with ((with_reducible refine (hAl.out).mono ?_); rintro e w1 ⟨rfl, hb1⟩)
        go_ret
        exact ⟨rfl, hb1⟩
      · have h2 : (60 : Int) < (k : Int) := by omega
        go_enter Tryd.func4, Tryd.ntmps4
        go_wp2_with ((with_reducible refine (hAl.out).mono ?_); rintro e w1 ⟨rfl, hb1⟩)
        go_ret
        exact ⟨rfl, hb1⟩

theorem made_bools (n : Nat) : (madeCells (Value.bool false).cells (n * 1)).toList = (List.replicate n false).map Value.bool := by
  show (madeCells #[Value.bool false] (n * 1)).toList = _
  rw [toList_madeCells_one, Nat.mul_one, List.map_replicate]
theorem its_one (x : It) : itsL [x] = itL x := by simp [itsL]
theorem bool_info : (Tryd.prog.info? 4).map (fun i => (i.zero, i.size, i.bytes)) = some (some (.bool false), 1, 1) := by kernel_rfl

set_option maxRecDepth 100000 in
set_option maxHeartbeats 4000000 in
theorem tstream_in (room : Int) (S : Option Addr) (k ck : Nat) (sc : List Bool) (w : World) (hG : GOk w) (h1 : 1 ≤ room) (h2 : room ≤ 64) (h3 : k ≤ 60) (hS : Rd w 0 1 S k (sc.map Value.bool)) :
    Calls Tryd.prog 4 #[.int .i64 room, .slice S k ck] w fun e w' => e = .returned (.bool true) ∧ Below w.heap.size w w' := by
  have hAl := hid (alive_any w hG)
  have HG0 := hid hG
  have HS := hid hS
  have hkl : sc.length = k := by have := hS.1; simpa using this
  have HK := hid hkl
  obtain ⟨i0, hi0, hz0, hz1, hz2⟩ := info_parts item_info
  obtain ⟨j0, hj0, hy0, hy1, hy2⟩ := info_parts bool_info
  clear hG hS hkl
  have hq1 : ¬ room < 1 := by omega
  have hq2 : ¬ 64 < room := by omega
  have hq3 : ¬ (60 : Int) < (k : Int) := by omega
  have hq4 : (k : Int) ≤ 60 := by omega
  go_enter Tryd.func4, Tryd.ntmps4
  go_wp2_with (first
    | ((with_reducible refine (hAl.out).mono ?_); rintro e w1 ⟨rfl, hb1⟩)
    | ((with_reducible refine at_alloc 24 ?_); refine wpList_al rfl 24 rfl _ (tap_zero _) ?_; intro w2 hB2 hb2 hy; have hzz := hid hy; clear hy)
    | (refine wpList_mk _ rfl _ _ _ rfl w.heap.size 4 j0 _ 1 1 Tryd.underlying43 hj0 hy0 hy1 hy2 _ _ _ _ (k + 1) rfl rfl (by omega) (by omega) (by omega) (by simp only [maxLen]; omega) (by have := hb1.size; have := hb2.size; omega) ?_; intro w3 hown hg3))
  rw [made_bools] at hown
  have hb3 : Below w2.heap.size w2 w3 := (Below.refl _ _).grown hg3 (Nat.le_refl _) (fun k e => by cases e)
  have hSW : Hid (SW w w3 w1.heap.size w2.heap.size k (List.replicate (k + 1) false) [] false [] none 0 0 none 0) := hid ⟨hb1.size, hB2.lt, below_chain (below_chain hb1 hb2) hb3, hB2.belowS hb3, Rd.nil _ _ _ _, Own.nil _ _ _ _ _, hown, fun h => absurd h (Nat.lt_irrefl _)⟩
  clear hB2 hb2 hown hg3 hb3 hb1 hzz hAl
  generalize w1.heap.size = gt at *
  generalize w2.heap.size = gL at *
  go_loopw [7, 9, 10] (fun s7 s9 s10 wx => ∃ (i n : Nat) (ls : List Bool) (xs : List It) (l : Bool) (T : List It) (D : Option Addr) (m c : Nat) (TD : Option Addr) (tc : Nat), i ≤ k ∧ s7 = .slice TD T.length tc ∧ s9 = .int .i64 n ∧ s10 = .int .i64 i ∧ n ≤ i ∧ ls.length = k + 1 ∧ TInv (fun j => ls.getD j false) n room xs l T ∧ SW w wx gt gL k ls xs l T D m c TD tc) (fun _ _ s10 _ => k - (intOf s10).toNat)
  case atStart => exact ⟨0, 0, _, [], false, [], none, 0, 0, none, 0, Nat.zero_le _, rfl, rfl, rfl, Nat.le_refl _, by simp, TInv.zero _ (by omega), hSW.out⟩
  case round =>
    obtain ⟨i, n, ls, xs, l, T, D, m, c, TD, tc, hik, rfl, rfl, rfl, hni, hll, hI0, hW0⟩ := hrel
    clear hSW
    have hI := hid hI0
    have hW := hid hW0
    have hLL := hid hll
    have HG := hid (HG0.out.below hW0.b)
    have HSw := hid (HS.out.below hW0.b)
    have htold := hI0.told
    have hxl : (xs.length : Int) ≤ room := hI0.len
    have hok := hid hI0.good.ok
    have hml : xs.length = m := rd_len hI0.good.ok hW0.r
    have hgw := hW0.t.lt
    have hgL := hW0.ltL
    have hgt1 := hW0.lt1
    have hgt2 := hW0.lt2
    have HML := hid hml
    clear hI0 hW0 hll hml
    by_cases hlt : i < k
    · have hti : (i : Int) < (k : Int) := by omega
      have htz : (0 : Int) ≤ (i : Int) := by omega
      have hsi : sc[i]? = some (sc[i]'(by have := HK.out; omega)) := List.getElem?_eq_getElem _
      obtain ⟨bs, os, rfl, _, cs⟩ := HSw.out.boolAt hsi
      generalize sc[i]'(by have := HK.out; omega) = b at *
      clear hsi
      obtain ⟨a0, a1, a2, a3⟩ := two_facts hW.out.t
      cases b
      · rcases hI.out.poll h2 with ⟨he, hI', hlen⟩ | ⟨he, hx, hl⟩
        · have hPo := hid (fun W h k => poll_lit (pollT xs l) 0 rfl he hok.out (by omega) D m c W h k)
          have HE := hid he
          have hoy := hid (pollT_ok hok.out l)
          have hox := hid (pollT_itok hok.out l)
          have hsX := it_sizeA _ hox.out
          have hsZ := it_sizeA zeroIt zeroIt_ok
          have hXZ : (itL (pollT xs l).2.2.1).toArray.size = (itL zeroIt).toArray.size := by rw [List.size_toArray, List.size_toArray, itL_len _ hox.out, itL_len zeroIt zeroIt_ok]
          have hone := hid (it_one (pollT xs l).2.2.1)
          have hzr : Hid (∀ W, (zeroValue 32).run Tryd.prog W = .ok (.agg (itL zeroIt).toArray) W) := hid zeroI_run
          have HI' := hid hI'
          have HLEN := hid hlen
          clear he hI' hlen
          generalize pollT xs l = r at *
          obtain ⟨ys, l', x, er⟩ := r
          simp only at hPo HE hoy hox hsX hXZ hone HI' HLEN
          generalize (itL zeroIt).toArray = Z at *
          generalize hXL : (itL x).toArray = X at *
          have HXL := hid hXL
          clear hXL
          go_upto_region 13 with (first
            | ((with_reducible refine (hPo.out _ (hW.out.r.low (Nat.zero_le _)) HG.out).mono ?_); rintro e w4 ⟨D', m', c', hm', rfl, hF4, hb4⟩)
            | ((with_reducible refine at_alloc 24 ?_); refine wpList_al rfl 24 rfl _ (tap_zero _) ?_; intro w5 hB5 hb5 hy; clear hy)
            | ((with_reducible refine at_alloc 32 ?_); refine wpList_al rfl 32 rfl _ (hzr.out _) ?_; intro w6 hB6 hb6 hy; clear hy; have l5 := hB5.lt)
            | ((with_reducible refine at_store 24 ?_); refine wpList_str rfl 24 _ _ rfl w4.heap.size _ rfl rfl _ _ (hB5.belowS hb6) rfl (tap_size _ _) (one_tap _ _ _ _) ?_; intro w7 hB7 hg7 hy; have hz7 := hid hy; clear hy)
            | ((with_reducible refine at_store 32 ?_); refine wpList_str rfl 32 _ _ rfl w5.heap.size X rfl rfl _ _ (hB6.grown hg7 (fun e => by have := Option.some.inj e; omega)) hXZ hsZ hone.out ?_; intro w8 hB8 hg8 hy; have hz8 := hid hy; clear hy))
          have hb46 := below_chain hb5 hb6
          have hb47 : Below w4.heap.size w4 w7 := hb46.grown hg7 hb46.size (by intro k e; cases e; exact Nat.le_refl _)
          have hb48 : Below w4.heap.size w4 w8 := hb47.grown hg8 hb47.size (by intro k e; cases e; exact hb5.size)
          have X11 := hid (hB7.grown hg8 (fun e => by have := Option.some.inj e; omega))
          have X12 := hid hB8
          have hbr := hid (below_chain hb4 hb48)
          have hF8 := hid (hF4.1.below hb48)
          have l4 := hb4.size
          have l48 := hb48.size
          have l11 := X11.out.lt
          clear hF4 hb4 hB5 hb5 hB6 hb6 hB7 hg7 hz7 hB8 hg8 hz8 hb46 hb47 hb48 l5 a0 a1 a2 a3
          generalize w5.heap.size = g12 at *
          generalize w4.heap.size = g11 at *
          obtain ⟨u0, u1, u2, u3⟩ := two_facts X11.out
          have hOr := hid (hW.out.o.below hbr.out)
          have hbsl := hid (fun W => bslice_its [x] (fun y hy => by simp at hy; subst hy; exact hox.out) (by simp) (by simp) W #[(0, .agg (itL x).toArray)] rfl)
          rw [HXL.out] at hbsl
          have hixL : (itsL [x]).length = 1 * 101 := by rw [its_one, itL_len x hox.out]
          have hixo := hid (itsL_one [x])
          have hT60 : T.length ≤ 200 := by cases l <;> simp at htold <;> omega
          go_upto_region 15 with (first
            | ((with_reducible refine at_load 32 ?_); refine wpList_ldr rfl 32 _ rfl g12 rfl _ X _ X12.out Tryd.underlying32 rfl hsX ?_)
            | ((with_reducible refine at_bslice 22 ?_); refine wpList_bsl1 rfl 22 32 1 0 _ rfl (.agg X) rfl _ (hbsl.out _) ?_; intro w9 hB9 hb9 hy; clear hy; have hR9 := hB9.rd hixL)
            | (at_builtin; refine wpList_app _ rfl _ _ _ rfl (gL + 1) 32 i0 _ 101 136 Tryd.underlying22 hi0 hz0 hz1 hz2 zeroI_cells (by omega) TD T.length tc (itsL T) rfl (hOr.out.below hb9) _ 1 1 _ (itsL [x]) rfl hR9 hixo.out (by simp only [maxLen]; omega) (by omega) (by have := hb9.size; omega) ?_; intro TD2 tc2 w10 hown hg10 hat))
          have hrl := hW.out.o.row_lt
          have XT := ((hW.out.t.belowS hbr.out).belowS hb9).grown hg10 (fun e => by have := hrl gt e.symm; omega)
          have XU := (X11.out.belowS hb9).grown hg10 (fun e => by have := hrl g11 e.symm; omega)
          clear u0 u1 u2 u3
          obtain ⟨u0, u1, u2, u3⟩ := two_facts XU
          go_wp2_with ((with_reducible refine at_store 24 ?_); refine wpList_str rfl 24 _ _ rfl gt _ rfl rfl _ _ XT rfl (tap_size _ _) (one_tap _ _ _ _) ?_; intro w11 hB11 hg11 hy; clear hy)
          have hO : Own w10 (gL + 1) 32 101 TD2 (T ++ [x]).length tc2 (itsL (T ++ [x])) := by rw [List.length_append, itsL_app]; exact hown
          have hWn := hW.out.told (below_chain hbr.out hb9) (hF8.out.below hb9) hO hg10 hat hB11 hg11
          exact ⟨⟨i + 1, n, ls, ys, l', T ++ [x], D', m', c', TD2, tc2, by omega, by simp, rfl, by go_num, by omega, hLL.out, HI'.out, hWn⟩, by simp [intOf]; omega⟩
        · clear hx hl
          have hPo := hid (fun W h k => poll_lit (pollT xs l) 6 rfl he hok.out (by omega) D m c W h k)
          have HE := hid he
          have hoy := hid (pollT_ok hok.out l)
          have hox := hid (pollT_itok hok.out l)
          have hsX := it_sizeA _ hox.out
          have hsZ := it_sizeA zeroIt zeroIt_ok
          have hXZ : (itL (pollT xs l).2.2.1).toArray.size = (itL zeroIt).toArray.size := by rw [List.size_toArray, List.size_toArray, itL_len _ hox.out, itL_len zeroIt zeroIt_ok]
          have hone := hid (it_one (pollT xs l).2.2.1)
          have hzr : Hid (∀ W, (zeroValue 32).run Tryd.prog W = .ok (.agg (itL zeroIt).toArray) W) := hid zeroI_run
          clear he
          generalize pollT xs l = r at *
          obtain ⟨ys, l', x, er⟩ := r
          simp only at hPo HE hoy hox hsX hXZ hone
          generalize (itL zeroIt).toArray = Z at *
          generalize hXL : (itL x).toArray = X at *
          have HXL := hid hXL
          clear hXL
          go_upto_region 13 with (first
            | ((with_reducible refine (hPo.out _ (hW.out.r.low (Nat.zero_le _)) HG.out).mono ?_); rintro e w4 ⟨D', m', c', hm', rfl, hF4, hb4⟩)
            | ((with_reducible refine at_alloc 24 ?_); refine wpList_al rfl 24 rfl _ (tap_zero _) ?_; intro w5 hB5 hb5 hy; clear hy)
            | ((with_reducible refine at_alloc 32 ?_); refine wpList_al rfl 32 rfl _ (hzr.out _) ?_; intro w6 hB6 hb6 hy; clear hy; have l5 := hB5.lt)
            | ((with_reducible refine at_store 24 ?_); refine wpList_str rfl 24 _ _ rfl w4.heap.size _ rfl rfl _ _ (hB5.belowS hb6) rfl (tap_size _ _) (one_tap _ _ _ _) ?_; intro w7 hB7 hg7 hy; have hz7 := hid hy; clear hy)
            | ((with_reducible refine at_store 32 ?_); refine wpList_str rfl 32 _ _ rfl w5.heap.size X rfl rfl _ _ (hB6.grown hg7 (fun e => by have := Option.some.inj e; omega)) hXZ hsZ hone.out ?_; intro w8 hB8 hg8 hy; have hz8 := hid hy; clear hy))
          have hb46 := below_chain hb5 hb6
          have hb47 : Below w4.heap.size w4 w7 := hb46.grown hg7 hb46.size (by intro k e; cases e; exact Nat.le_refl _)
          have hb48 : Below w4.heap.size w4 w8 := hb47.grown hg8 hb47.size (by intro k e; cases e; exact hb5.size)
          have X11 := hid (hB7.grown hg8 (fun e => by have := Option.some.inj e; omega))
          have X12 := hid hB8
          have hbr := hid (below_chain hb4 hb48)
          have hF8 := hid (hF4.1.below hb48)
          have l4 := hb4.size
          have l48 := hb48.size
          have l11 := X11.out.lt
          clear hF4 hb4 hB5 hb5 hB6 hb6 hB7 hg7 hz7 hB8 hg8 hz8 hb46 hb47 hb48 l5 a0 a1 a2 a3
          generalize w5.heap.size = g12 at *
          generalize w4.heap.size = g11 at *
          obtain ⟨u0, u1, u2, u3⟩ := two_facts X11.out
          clear u0 u1 u2 u3
          go_wp2_with fail
          exact ⟨⟨i + 1, n, ls, xs, l, T, D, m, c, TD, tc, by omega, rfl, rfl, by go_num, by omega, hLL.out, hI.out, hW.out.below hbr.out⟩, by simp [intOf]; omega⟩
      · have hp := hI.out.push (g := fun j => (ls.set n (pushT xs l room (evN (n : Int))).2.1).getD j false) h1 h2 (by omega) (fun j hj => by simp only [List.getD_eq_getElem?_getD]; rw [List.getElem?_set_ne (by omega)]) (by simp only [List.getD_eq_getElem?_getD]; rw [List.getElem?_set_self (by have := hLL.out; omega)]; rfl)
        obtain ⟨he, hlr, hlo, hI'⟩ := hp
        have hPu0 := hid (push_lit (pushT xs l room (evN (n : Int))) 0 rfl he hok.out (by omega))
        have hEv := hid (fun W => evn_any (n : Int) W)
        have hyl := hid (pushT_ok hok.out l room (evN (n : Int)) (evN_ok _))
        have HI' := hid hI'
        have HLO := hid hlo
        clear he hlo hI'
        generalize pushT xs l room (evN (n : Int)) = r at *
        obtain ⟨ys, l', er⟩ := r
        simp only at hPu0 hlr hyl HI' HLO
        have XS := hid hW.out.t
        have HRc := hid (hW.out.r.low (Nat.zero_le _))
        have HGc := HG
        go_upto_region 18 with fail
        go_cut [14, 15] (fun st se wx => ∃ D m c g, m ≤ 1000 ∧ st = .pointer (some ⟨g, 0, none⟩) ∧ se = .int .i64 0 ∧ wr.heap.size ≤ g ∧ Below wr.heap.size wr wx ∧ Blk wx g 24 #[.slice D m c, .bool l'] ∧ Rd wx wr.heap.size 101 D m (itsL ys))
        case first =>
          have hgs : gt < wr.heap.size := hgw
          have hPu := hid (fun W h k => hPu0.out D m c W h k)
          have hdw : wr.drew.heap.size = wr.heap.size := rfl; have XS := hid XS.out.drew; have HRc := hid (HRc.out.below (below_self_drew _)); have HGc := hid (HGc.out.below (below_self_drew _)); have X0c := hid (below_self_drew wr); obtain ⟨s0, s1, _, _⟩ := two_facts XS.out
          refine wp_region_held_drew (S := (fun w' => w'.cell? ⟨gt, 0, none⟩ = some (.slice D m c) ∧ w'.cell? ⟨gt, 1, none⟩ = some (.bool l))) (by kernel_rfl) ⟨s0, s1⟩ (fun hHeld => ?_)
          refine reg_take (v := ?_) 0 rfl (by kernel_rfl) (by kernel_rfl) (by kernel_rfl) (fun _ _ _ h => h) (Or.inl ⟨by rfl, ?_⟩) (by assumption) ?_; rotate_left; (intro w hSw; (try dsimp only at hSw); go_simp); (try with_reducible rfl); (try simp only [Act.put, List.setIfInBounds_toArray, List.set_cons_zero, List.set_cons_succ])
          refine reg_take (v := ?_) 1 rfl (by kernel_rfl) (by kernel_rfl) (by kernel_rfl) (fun _ _ _ h => h) (Or.inl ⟨by rfl, ?_⟩) (by assumption) ?_; rotate_left; (intro w hSw; (try dsimp only at hSw); go_simp); (try with_reducible rfl); (try simp only [Act.put, List.setIfInBounds_toArray, List.set_cons_zero, List.set_cons_succ])
          refine reg_take (v := ?_) 2 rfl (by kernel_rfl) (by kernel_rfl) (by kernel_rfl) (fun _ _ _ h => h) (Or.inl ⟨by rfl, ?_⟩) (by assumption) ?_; rotate_left; (intro w hSw; (try dsimp only at hSw); go_simp); (try with_reducible rfl); (try simp only [Act.put, List.setIfInBounds_toArray, List.set_cons_zero, List.set_cons_succ])
          refine reg_two 3 8 rfl rfl (by kernel_rfl) (fun K hK => ?_) (fun K hK => ?_)
          · go_simp; refine (hEv.out _).mono ?_; rintro e wv ⟨rfl, hbv⟩; have XS := hid (XS.out.belowS hbv); have HRc := hid (HRc.out.below hbv); have HGc := hid (HGc.out.below hbv); have X0c := hid (below_chain X0c.out hbv); obtain ⟨s0, s1, _, _⟩ := two_facts XS.out; refine hK.out _ _ ⟨s0, s1⟩ (fun hHeld => ?_); clear hK K; (try simp only [Act.put, List.setIfInBounds_toArray, List.set_cons_zero, List.set_cons_succ])
            refine reg_two 4 8 rfl rfl (by kernel_rfl) (fun K hK => ?_) (fun K hK => ?_)
            · go_simp; refine (hPu.out _ HRc.out HGc.out).mono ?_; rintro e wu ⟨D', m', c', hm', rfl, hFu, hbu⟩; have hlo := X0c.out.size; have HF := hid (hFu.1.low hlo); have XS := hid (XS.out.belowS hbu); have HRc := hid (HRc.out.below hbu); have HGc := hid (HGc.out.below hbu); have X0c := hid (below_chain X0c.out hbu); obtain ⟨s0, s1, _, _⟩ := two_facts XS.out; refine hK.out _ _ ⟨s0, s1⟩ (fun hHeld => ?_); clear hK K; (try simp only [Act.put, List.setIfInBounds_toArray, List.set_cons_zero, List.set_cons_succ])
              refine reg_take (v := ?_) 5 rfl (by kernel_rfl) (by kernel_rfl) (by kernel_rfl) (fun _ _ _ h => h) (Or.inl ⟨by rfl, ?_⟩) (by assumption) ?_; rotate_left; (intro w hSw; (try dsimp only at hSw); go_simp); (try with_reducible rfl); (try simp only [Act.put, List.setIfInBounds_toArray, List.set_cons_zero, List.set_cons_succ])
              refine reg_take (v := ?_) 6 rfl (by kernel_rfl) (by kernel_rfl) (by kernel_rfl) (fun _ _ _ h => h) (Or.inl ⟨by rfl, ?_⟩) (by assumption) ?_; rotate_left; (intro w hSw; (try dsimp only at hSw); go_simp); (try with_reducible rfl); (try simp only [Act.put, List.setIfInBounds_toArray, List.set_cons_zero, List.set_cons_succ])
              refine reg_take (v := ?_) 7 rfl (by kernel_rfl) (by kernel_rfl) (by kernel_rfl) (fun _ _ _ h => h) (Or.inl ⟨by rfl, ?_⟩) (by assumption) ?_; rotate_left; (intro w hSw; (try dsimp only at hSw); go_simp); (try with_reducible rfl); (try simp only [Act.put, List.setIfInBounds_toArray, List.set_cons_zero, List.set_cons_succ])
              refine reg_only 8 rfl (by kernel_rfl) (fun K hK => ?_); refine step_al rfl 24 rfl _ (tap_zero _) ?_; intro wa hBa hba hy; clear hy; have HN := hid ((RdM.of_lt HF.out (Nat.le_refl _)).below hba); have hgB := hid X0c.out.size; have XS := hid (XS.out.belowS hba); have HRc := hid (HRc.out.below hba); have HGc := hid (HGc.out.below hba); have X0c := hid (below_chain X0c.out hba); have XB := hid hBa; obtain ⟨s0, s1, _, _⟩ := two_facts XS.out; refine hK.out _ _ ⟨s0, s1⟩ (fun hHeld => ?_); clear hK K; (try simp only [Act.put, List.setIfInBounds_toArray, List.set_cons_zero, List.set_cons_succ])
              refine reg_only 9 rfl (by kernel_rfl) (fun K hK => ?_); refine step_str rfl 24 _ _ rfl _ _ rfl rfl _ _ XB.out rfl (tap_size _ _) (one_tap _ _ _ _) ?_; intro ws hBs hgs' hy; clear hy; have hgB' := hgB.out; have XS := hid (XS.out.grown hgs' (fun e => by have := Option.some.inj e; omega)); have X0c := hid (below_set X0c.out hgs' hgB'); have HN := hid (HN.out.grown hgs'); have XB := hid hBs; obtain ⟨s0, s1, _, _⟩ := two_facts XS.out; refine hK.out _ _ ⟨s0, s1⟩ (fun hHeld => ?_); clear hK K; (try simp only [Act.put, List.setIfInBounds_toArray, List.set_cons_zero, List.set_cons_succ])
              refine reg_take (v := ?_) 10 rfl (by kernel_rfl) (by kernel_rfl) (by kernel_rfl) (fun _ _ _ h => h) (Or.inl ⟨by rfl, ?_⟩) (by assumption) ?_; rotate_left; (intro w hSw; (try dsimp only at hSw); go_simp); (try with_reducible rfl); (try simp only [Act.put, List.setIfInBounds_toArray, List.set_cons_zero, List.set_cons_succ])
              refine wpAnyH_done (by kernel_rfl) ?_ _
              go_wp2_with fail
              go_meet
              exact ⟨_, _, _, _, hm', rfl, rfl, hgB', X0c.out, XB.out, HN.out.1⟩
            · refine step_al rfl 24 rfl _ (tap_zero _) ?_; intro wa hBa hba hy; clear hy; have hgB := hid X0c.out.size; have XS := hid (XS.out.belowS hba); have HRc := hid (HRc.out.below hba); have HGc := hid (HGc.out.below hba); have X0c := hid (below_chain X0c.out hba); have XB := hid hBa; obtain ⟨s0, s1, _, _⟩ := two_facts XS.out; refine hK.out _ _ ⟨s0, s1⟩ (fun hHeld => ?_); clear hK K; (try simp only [Act.put, List.setIfInBounds_toArray, List.set_cons_zero, List.set_cons_succ])
              refine reg_only 4 rfl (by kernel_rfl) (fun K hK => ?_); go_simp; refine (hPu.out _ HRc.out HGc.out).mono ?_; rintro e wu ⟨D', m', c', hm', rfl, hFu, hbu⟩; have hlo := X0c.out.size; have HF := hid (hFu.1.low hlo); have HN := hid (RdM.of_fr hFu.1 hlo XB.out.lt); have XS := hid (XS.out.belowS hbu); have HRc := hid (HRc.out.below hbu); have HGc := hid (HGc.out.below hbu); have X0c := hid (below_chain X0c.out hbu); have XB := hid (XB.out.belowS hbu); obtain ⟨s0, s1, _, _⟩ := two_facts XS.out; refine hK.out _ _ ⟨s0, s1⟩ (fun hHeld => ?_); clear hK K; (try simp only [Act.put, List.setIfInBounds_toArray, List.set_cons_zero, List.set_cons_succ])
              refine reg_take (v := ?_) 5 rfl (by kernel_rfl) (by kernel_rfl) (by kernel_rfl) (fun _ _ _ h => h) (Or.inl ⟨by rfl, ?_⟩) (by assumption) ?_; rotate_left; (intro w hSw; (try dsimp only at hSw); go_simp); (try with_reducible rfl); (try simp only [Act.put, List.setIfInBounds_toArray, List.set_cons_zero, List.set_cons_succ])
              refine reg_take (v := ?_) 6 rfl (by kernel_rfl) (by kernel_rfl) (by kernel_rfl) (fun _ _ _ h => h) (Or.inl ⟨by rfl, ?_⟩) (by assumption) ?_; rotate_left; (intro w hSw; (try dsimp only at hSw); go_simp); (try with_reducible rfl); (try simp only [Act.put, List.setIfInBounds_toArray, List.set_cons_zero, List.set_cons_succ])
              refine reg_take (v := ?_) 7 rfl (by kernel_rfl) (by kernel_rfl) (by kernel_rfl) (fun _ _ _ h => h) (Or.inl ⟨by rfl, ?_⟩) (by assumption) ?_; rotate_left; (intro w hSw; (try dsimp only at hSw); go_simp); (try with_reducible rfl); (try simp only [Act.put, List.setIfInBounds_toArray, List.set_cons_zero, List.set_cons_succ])
              refine reg_only 9 rfl (by kernel_rfl) (fun K hK => ?_); refine step_str rfl 24 _ _ rfl _ _ rfl rfl _ _ XB.out rfl (tap_size _ _) (one_tap _ _ _ _) ?_; intro ws hBs hgs' hy; clear hy; have hgB' := hgB.out; have XS := hid (XS.out.grown hgs' (fun e => by have := Option.some.inj e; omega)); have X0c := hid (below_set X0c.out hgs' hgB'); have HN := hid (HN.out.grown hgs'); have XB := hid hBs; obtain ⟨s0, s1, _, _⟩ := two_facts XS.out; refine hK.out _ _ ⟨s0, s1⟩ (fun hHeld => ?_); clear hK K; (try simp only [Act.put, List.setIfInBounds_toArray, List.set_cons_zero, List.set_cons_succ])
              refine reg_take (v := ?_) 10 rfl (by kernel_rfl) (by kernel_rfl) (by kernel_rfl) (fun _ _ _ h => h) (Or.inl ⟨by rfl, ?_⟩) (by assumption) ?_; rotate_left; (intro w hSw; (try dsimp only at hSw); go_simp); (try with_reducible rfl); (try simp only [Act.put, List.setIfInBounds_toArray, List.set_cons_zero, List.set_cons_succ])
              refine wpAnyH_done (by kernel_rfl) ?_ _
              go_wp2_with fail
              go_meet
              exact ⟨_, _, _, _, hm', rfl, rfl, hgB', X0c.out, XB.out, HN.out.1⟩
          · refine step_al rfl 24 rfl _ (tap_zero _) ?_; intro wa hBa hba hy; clear hy; have hgB := hid X0c.out.size; have XS := hid (XS.out.belowS hba); have HRc := hid (HRc.out.below hba); have HGc := hid (HGc.out.below hba); have X0c := hid (below_chain X0c.out hba); have XB := hid hBa; obtain ⟨s0, s1, _, _⟩ := two_facts XS.out; refine hK.out _ _ ⟨s0, s1⟩ (fun hHeld => ?_); clear hK K; (try simp only [Act.put, List.setIfInBounds_toArray, List.set_cons_zero, List.set_cons_succ])
            refine reg_only 3 rfl (by kernel_rfl) (fun K hK => ?_); go_simp; refine (hEv.out _).mono ?_; rintro e wv ⟨rfl, hbv⟩; have XS := hid (XS.out.belowS hbv); have HRc := hid (HRc.out.below hbv); have HGc := hid (HGc.out.below hbv); have X0c := hid (below_chain X0c.out hbv); have XB := hid (XB.out.belowS hbv); obtain ⟨s0, s1, _, _⟩ := two_facts XS.out; refine hK.out _ _ ⟨s0, s1⟩ (fun hHeld => ?_); clear hK K; (try simp only [Act.put, List.setIfInBounds_toArray, List.set_cons_zero, List.set_cons_succ])
            refine reg_only 4 rfl (by kernel_rfl) (fun K hK => ?_); go_simp; refine (hPu.out _ HRc.out HGc.out).mono ?_; rintro e wu ⟨D', m', c', hm', rfl, hFu, hbu⟩; have hlo := X0c.out.size; have HF := hid (hFu.1.low hlo); have HN := hid (RdM.of_fr hFu.1 hlo XB.out.lt); have XS := hid (XS.out.belowS hbu); have HRc := hid (HRc.out.below hbu); have HGc := hid (HGc.out.below hbu); have X0c := hid (below_chain X0c.out hbu); have XB := hid (XB.out.belowS hbu); obtain ⟨s0, s1, _, _⟩ := two_facts XS.out; refine hK.out _ _ ⟨s0, s1⟩ (fun hHeld => ?_); clear hK K; (try simp only [Act.put, List.setIfInBounds_toArray, List.set_cons_zero, List.set_cons_succ])
            refine reg_take (v := ?_) 5 rfl (by kernel_rfl) (by kernel_rfl) (by kernel_rfl) (fun _ _ _ h => h) (Or.inl ⟨by rfl, ?_⟩) (by assumption) ?_; rotate_left; (intro w hSw; (try dsimp only at hSw); go_simp); (try with_reducible rfl); (try simp only [Act.put, List.setIfInBounds_toArray, List.set_cons_zero, List.set_cons_succ])
            refine reg_take (v := ?_) 6 rfl (by kernel_rfl) (by kernel_rfl) (by kernel_rfl) (fun _ _ _ h => h) (Or.inl ⟨by rfl, ?_⟩) (by assumption) ?_; rotate_left; (intro w hSw; (try dsimp only at hSw); go_simp); (try with_reducible rfl); (try simp only [Act.put, List.setIfInBounds_toArray, List.set_cons_zero, List.set_cons_succ])
            refine reg_take (v := ?_) 7 rfl (by kernel_rfl) (by kernel_rfl) (by kernel_rfl) (fun _ _ _ h => h) (Or.inl ⟨by rfl, ?_⟩) (by assumption) ?_; rotate_left; (intro w hSw; (try dsimp only at hSw); go_simp); (try with_reducible rfl); (try simp only [Act.put, List.setIfInBounds_toArray, List.set_cons_zero, List.set_cons_succ])
            refine reg_only 9 rfl (by kernel_rfl) (fun K hK => ?_); refine step_str rfl 24 _ _ rfl _ _ rfl rfl _ _ XB.out rfl (tap_size _ _) (one_tap _ _ _ _) ?_; intro ws hBs hgs' hy; clear hy; have hgB' := hgB.out; have XS := hid (XS.out.grown hgs' (fun e => by have := Option.some.inj e; omega)); have X0c := hid (below_set X0c.out hgs' hgB'); have HN := hid (HN.out.grown hgs'); have XB := hid hBs; obtain ⟨s0, s1, _, _⟩ := two_facts XS.out; refine hK.out _ _ ⟨s0, s1⟩ (fun hHeld => ?_); clear hK K; (try simp only [Act.put, List.setIfInBounds_toArray, List.set_cons_zero, List.set_cons_succ])
            refine reg_take (v := ?_) 10 rfl (by kernel_rfl) (by kernel_rfl) (by kernel_rfl) (fun _ _ _ h => h) (Or.inl ⟨by rfl, ?_⟩) (by assumption) ?_; rotate_left; (intro w hSw; (try dsimp only at hSw); go_simp); (try with_reducible rfl); (try simp only [Act.put, List.setIfInBounds_toArray, List.set_cons_zero, List.set_cons_succ])
            refine wpAnyH_done (by kernel_rfl) ?_ _
            go_wp2_with fail
            go_meet
            exact ⟨_, _, _, _, hm', rfl, rfl, hgB', X0c.out, XB.out, HN.out.1⟩
        obtain ⟨D', m', c', g', hm', rfl, rfl, hgg, hbc, hBc, hRc⟩ := hcut
        have hym := rd_len hyl.out hRc
        have hmr : (m' : Int) ≤ room := by omega
        have hmr2 : ¬ room < (m' : Int) := by omega
        have HLO' := hid (fun h : l' = true => (by have := HLO.out h; have := HML.out; omega : room - 1 ≤ (m : Int)))
        obtain ⟨b0, b1, b2, b3⟩ := two_facts hBc
        have hgtg : gt ≠ g' := by omega
        have hgLg : gL ≠ g' := by omega
        have hgLt : gL ≠ gt := by omega
        obtain ⟨_, _, f1, f2, _, _⟩ := (hW.out.ll.below hbc).at_ (k := n) (by omega)
        obtain ⟨t0, t1, t2, t3⟩ := two_facts (hW.out.t.belowS hbc)
        have hnn : (n : Int) < (k : Int) + 1 := by omega
        have hnn2 : (0 : Int) ≤ (n : Int) := by omega
        clear hym a0 a1 a2 a3
        go_upto_region 22 with fail
        have BG := hBc.far (b := gL) (i := n) (by omega) (.bool l')
        have BT := (hW.out.t.belowS hbc).far (b := gL) (i := n) (by omega) (.bool l')
        clear b0 b1 b2 b3 t0 t1 t2 t3 f1 f2
        obtain ⟨b0, b1, b2, b3⟩ := two_facts BG
        obtain ⟨t0, t1, t2, t3⟩ := two_facts BT
        cases l'
        · go_wp2_with ((with_reducible refine at_store 24 ?_); refine wpList_str rfl 24 _ _ rfl gt _ rfl rfl _ _ BT rfl (tap_size _ _) (one_tap _ _ _ _) ?_; intro w11 hB11 hg11 hy; clear hy)
          have hWn := hW.out.pushed (n := n) hbc hRc hB11 hg11
          exact ⟨⟨i + 1, n + 1, _, ys, _, T, D', m', c', TD, tc, by omega, rfl, by go_num, by go_num, by omega, by simp [hLL.out], HI'.out, hWn⟩, by simp [intOf]; omega⟩
        · have hcmp : ¬ (m : Int) < room - 1 := by have := HLO'.out rfl; omega
          go_wp2_with ((with_reducible refine at_store 24 ?_); refine wpList_str rfl 24 _ _ rfl gt _ rfl rfl _ _ BT rfl (tap_size _ _) (one_tap _ _ _ _) ?_; intro w11 hB11 hg11 hy; clear hy)
          have hWn := hW.out.pushed (n := n) hbc hRc hB11 hg11
          exact ⟨⟨i + 1, n + 1, _, ys, _, T, D', m', c', TD, tc, by omega, rfl, by go_num, by go_num, by omega, by simp [hLL.out], HI'.out, hWn⟩, by simp [intOf]; omega⟩
    · obtain rfl : i = k := by omega
      have hti : ¬ (i : Int) < (i : Int) := by omega
      go_wp2_with fail
      go_loopw [7, 16] (fun s7 s16 wx => ∃ (j : Nat) (xs : List It) (l : Bool) (T : List It) (D : Option Addr) (m c : Nat) (TD : Option Addr) (tc : Nat), j ≤ i + 1 ∧ s7 = .slice TD T.length tc ∧ s16 = .int .i64 j ∧ xs.length + (if l then 1 else 0) ≤ i - j ∧ TInv (fun j => ls.getD j false) n room xs l T ∧ SW w wx gt gL i ls xs l T D m c TD tc) (fun _ s16 _ => i + 1 - (intOf s16).toNat)
      case atStart => exact ⟨0, xs, l, T, D, m, c, TD, tc, Nat.zero_le _, rfl, rfl, by have := hI.out.cnt; omega, hI.out, hW.out⟩
      case round =>
        clear hI hW HG HSw htold hxl hok HML hgw hgL hgt1 hgt2
        obtain ⟨j, xs, l, T, D, m, c, TD, tc, hjk, rfl, rfl, hcn, hI0, hW0⟩ := hrel
        have hI := hid hI0
        have hW := hid hW0
        have HG := hid (HG0.out.below hW0.b)
        have htold := hI0.told
        have hxl : (xs.length : Int) ≤ room := hI0.len
        have hok := hid hI0.good.ok
        have hml : xs.length = m := rd_len hI0.good.ok hW0.r
        have hgw := hW0.t.lt
        have hgL := hW0.ltL
        have hgt1 := hW0.lt1
        have hgt2 := hW0.lt2
        have HML := hid hml
        have HCN := hid hcn
        clear hI0 hW0 hml hcn
        by_cases hlt2 : j ≤ i
        · have htj : (j : Int) ≤ (i : Int) := by omega
          have htz : (0 : Int) ≤ (j : Int) := by omega
          obtain ⟨a0, a1, a2, a3⟩ := two_facts hW.out.t
          rcases hI.out.poll h2 with ⟨he, hI', hlen⟩ | ⟨he, hx, hl⟩
          · have hPo := hid (fun W h k => poll_lit (pollT xs l) 0 rfl he hok.out (by omega) D m c W h k)
            have HE := hid he
            have hoy := hid (pollT_ok hok.out l)
            have hox := hid (pollT_itok hok.out l)
            have hsX := it_sizeA _ hox.out
            have hsZ := it_sizeA zeroIt zeroIt_ok
            have hXZ : (itL (pollT xs l).2.2.1).toArray.size = (itL zeroIt).toArray.size := by rw [List.size_toArray, List.size_toArray, itL_len _ hox.out, itL_len zeroIt zeroIt_ok]
            have hone := hid (it_one (pollT xs l).2.2.1)
            have hzr : Hid (∀ W, (zeroValue 32).run Tryd.prog W = .ok (.agg (itL zeroIt).toArray) W) := hid zeroI_run
            have HI' := hid hI'
            have HLEN := hid hlen
            clear he hI' hlen
            generalize pollT xs l = r at *
            obtain ⟨ys, l', x, er⟩ := r
            simp only at hPo HE hoy hox hsX hXZ hone HI' HLEN
            generalize (itL zeroIt).toArray = Z at *
            generalize hXL : (itL x).toArray = X at *
            have HXL := hid hXL
            clear hXL
            go_upto_region 30 with (first
              | ((with_reducible refine (hPo.out _ (hW.out.r.low (Nat.zero_le _)) HG.out).mono ?_); rintro e w4 ⟨D', m', c', hm', rfl, hF4, hb4⟩)
              | ((with_reducible refine at_alloc 24 ?_); refine wpList_al rfl 24 rfl _ (tap_zero _) ?_; intro w5 hB5 hb5 hy; clear hy)
              | ((with_reducible refine at_alloc 32 ?_); refine wpList_al rfl 32 rfl _ (hzr.out _) ?_; intro w6 hB6 hb6 hy; clear hy; have l5 := hB5.lt)
              | ((with_reducible refine at_store 24 ?_); refine wpList_str rfl 24 _ _ rfl w4.heap.size _ rfl rfl _ _ (hB5.belowS hb6) rfl (tap_size _ _) (one_tap _ _ _ _) ?_; intro w7 hB7 hg7 hy; have hz7 := hid hy; clear hy)
              | ((with_reducible refine at_store 32 ?_); refine wpList_str rfl 32 _ _ rfl w5.heap.size X rfl rfl _ _ (hB6.grown hg7 (fun e => by have := Option.some.inj e; omega)) hXZ hsZ hone.out ?_; intro w8 hB8 hg8 hy; have hz8 := hid hy; clear hy))
            have hb46 := below_chain hb5 hb6
            have hb47 : Below w4.heap.size w4 w7 := hb46.grown hg7 hb46.size (by intro k e; cases e; exact Nat.le_refl _)
            have hb48 : Below w4.heap.size w4 w8 := hb47.grown hg8 hb47.size (by intro k e; cases e; exact hb5.size)
            have X11 := hid (hB7.grown hg8 (fun e => by have := Option.some.inj e; omega))
            have X12 := hid hB8
            have hbr := hid (below_chain hb4 hb48)
            have hF8 := hid (hF4.1.below hb48)
            have l4 := hb4.size
            have l48 := hb48.size
            have l11 := X11.out.lt
            clear hF4 hb4 hB5 hb5 hB6 hb6 hB7 hg7 hz7 hB8 hg8 hz8 hb46 hb47 hb48 l5 a0 a1 a2 a3
            generalize w5.heap.size = g12 at *
            generalize w4.heap.size = g11 at *
            obtain ⟨u0, u1, u2, u3⟩ := two_facts X11.out
            have hOr := hid (hW.out.o.below hbr.out)
            have hbsl := hid (fun W => bslice_its [x] (fun y hy => by simp at hy; subst hy; exact hox.out) (by simp) (by simp) W #[(0, .agg (itL x).toArray)] rfl)
            rw [HXL.out] at hbsl
            have hixL : (itsL [x]).length = 1 * 101 := by rw [its_one, itL_len x hox.out]
            have hixo := hid (itsL_one [x])
            have hT60 : T.length ≤ 200 := by cases l <;> simp at htold <;> omega
            go_upto_region 32 with (first
              | ((with_reducible refine at_load 32 ?_); refine wpList_ldr rfl 32 _ rfl g12 rfl _ X _ X12.out Tryd.underlying32 rfl hsX ?_)
              | ((with_reducible refine at_bslice 22 ?_); refine wpList_bsl1 rfl 22 32 1 0 _ rfl (.agg X) rfl _ (hbsl.out _) ?_; intro w9 hB9 hb9 hy; clear hy; have hR9 := hB9.rd hixL)
              | (at_builtin; refine wpList_app _ rfl _ _ _ rfl (gL + 1) 32 i0 _ 101 136 Tryd.underlying22 hi0 hz0 hz1 hz2 zeroI_cells (by omega) TD T.length tc (itsL T) rfl (hOr.out.below hb9) _ 1 1 _ (itsL [x]) rfl hR9 hixo.out (by simp only [maxLen]; omega) (by omega) (by have := hb9.size; omega) ?_; intro TD2 tc2 w10 hown hg10 hat))
            have hrl := hW.out.o.row_lt
            have XT := ((hW.out.t.belowS hbr.out).belowS hb9).grown hg10 (fun e => by have := hrl gt e.symm; omega)
            have XU := (X11.out.belowS hb9).grown hg10 (fun e => by have := hrl g11 e.symm; omega)
            clear u0 u1 u2 u3
            obtain ⟨u0, u1, u2, u3⟩ := two_facts XU
            go_wp2_with ((with_reducible refine at_store 24 ?_); refine wpList_str rfl 24 _ _ rfl gt _ rfl rfl _ _ XT rfl (tap_size _ _) (one_tap _ _ _ _) ?_; intro w11 hB11 hg11 hy; clear hy)
            have hO : Own w10 (gL + 1) 32 101 TD2 (T ++ [x]).length tc2 (itsL (T ++ [x])) := by rw [List.length_append, itsL_app]; exact hown
            have hWn := hW.out.told (below_chain hbr.out hb9) (hF8.out.below hb9) hO hg10 hat hB11 hg11
            exact ⟨⟨j + 1, ys, l', T ++ [x], D', m', c', TD2, tc2, by omega, by simp, by go_num, by have := HLEN.out; have := HCN.out; omega, HI'.out, hWn⟩, by simp [intOf]; omega⟩
          · have HX0 : Hid (xs.length + (if l then 1 else 0) = 0) := hid (by rw [hx, hl]; rfl)
            clear hx hl
            have hPo := hid (fun W h k => poll_lit (pollT xs l) 6 rfl he hok.out (by omega) D m c W h k)
            have HE := hid he
            have hoy := hid (pollT_ok hok.out l)
            have hox := hid (pollT_itok hok.out l)
            have hsX := it_sizeA _ hox.out
            have hsZ := it_sizeA zeroIt zeroIt_ok
            have hXZ : (itL (pollT xs l).2.2.1).toArray.size = (itL zeroIt).toArray.size := by rw [List.size_toArray, List.size_toArray, itL_len _ hox.out, itL_len zeroIt zeroIt_ok]
            have hone := hid (it_one (pollT xs l).2.2.1)
            have hzr : Hid (∀ W, (zeroValue 32).run Tryd.prog W = .ok (.agg (itL zeroIt).toArray) W) := hid zeroI_run
            clear he
            generalize pollT xs l = r at *
            obtain ⟨ys, l', x, er⟩ := r
            simp only at hPo HE hoy hox hsX hXZ hone
            generalize (itL zeroIt).toArray = Z at *
            generalize hXL : (itL x).toArray = X at *
            have HXL := hid hXL
            clear hXL
            go_upto_region 30 with (first
              | ((with_reducible refine (hPo.out _ (hW.out.r.low (Nat.zero_le _)) HG.out).mono ?_); rintro e w4 ⟨D', m', c', hm', rfl, hF4, hb4⟩)
              | ((with_reducible refine at_alloc 24 ?_); refine wpList_al rfl 24 rfl _ (tap_zero _) ?_; intro w5 hB5 hb5 hy; clear hy)
              | ((with_reducible refine at_alloc 32 ?_); refine wpList_al rfl 32 rfl _ (hzr.out _) ?_; intro w6 hB6 hb6 hy; clear hy; have l5 := hB5.lt)
              | ((with_reducible refine at_store 24 ?_); refine wpList_str rfl 24 _ _ rfl w4.heap.size _ rfl rfl _ _ (hB5.belowS hb6) rfl (tap_size _ _) (one_tap _ _ _ _) ?_; intro w7 hB7 hg7 hy; have hz7 := hid hy; clear hy)
              | ((with_reducible refine at_store 32 ?_); refine wpList_str rfl 32 _ _ rfl w5.heap.size X rfl rfl _ _ (hB6.grown hg7 (fun e => by have := Option.some.inj e; omega)) hXZ hsZ hone.out ?_; intro w8 hB8 hg8 hy; have hz8 := hid hy; clear hy))
            have hb46 := below_chain hb5 hb6
            have hb47 : Below w4.heap.size w4 w7 := hb46.grown hg7 hb46.size (by intro k e; cases e; exact Nat.le_refl _)
            have hb48 : Below w4.heap.size w4 w8 := hb47.grown hg8 hb47.size (by intro k e; cases e; exact hb5.size)
            have X11 := hid (hB7.grown hg8 (fun e => by have := Option.some.inj e; omega))
            have X12 := hid hB8
            have hbr := hid (below_chain hb4 hb48)
            have hF8 := hid (hF4.1.below hb48)
            have l4 := hb4.size
            have l48 := hb48.size
            have l11 := X11.out.lt
            clear hF4 hb4 hB5 hb5 hB6 hb6 hB7 hg7 hz7 hB8 hg8 hz8 hb46 hb47 hb48 l5 a0 a1 a2 a3
            generalize w5.heap.size = g12 at *
            generalize w4.heap.size = g11 at *
            obtain ⟨u0, u1, u2, u3⟩ := two_facts X11.out
            clear u0 u1 u2 u3
            go_wp2_with fail
            exact ⟨⟨j + 1, xs, l, T, D, m, c, TD, tc, by omega, rfl, by go_num, by have := HX0.out; rw [this]; exact Nat.zero_le _, hI.out, hW.out.below hbr.out⟩, by simp [intOf]; omega⟩
        · obtain rfl : j = i + 1 := by omega
          have htj : ¬ (((i + 1 : Nat) : Int)) ≤ (i : Int) := by omega
          have hc0 := HCN.out
          have hl0 : l = false := by
            cases l
            · rfl
            · simp at hc0
          subst hl0
          have hx0 : xs = [] := List.eq_nil_of_length_eq_zero (by omega)
          subst hx0
          have htk := hI.out.tok
          simp only [Bool.false_eq_true, if_false, List.append_nil] at htk
          have hSt := hid (fun W (h : Rd W 0 101 TD T.length (itsL T)) (h2 : Rd W 0 1 (some ⟨gL, 0, none⟩) (i + 1) (ls.map Value.bool)) => stream_any TD T.length tc (some ⟨gL, 0, none⟩) (i + 1) (i + 1) ls (fun j => ls.getD j false) n W (fun q hq => by rw [List.getD_eq_getElem?_getD, List.getElem?_eq_getElem hq]; rfl) (by have := hLL.out; omega) (by omega) (by rw [htk]; exact h) h2)
          clear htk hc0
          go_wp2_with ((with_reducible refine (hSt.out _ (hW.out.o.rd.low (Nat.zero_le _)) (hW.out.ll.rd.low (Nat.zero_le _))).mono ?_); rintro e w9 ⟨rfl, hb9⟩)
          go_ret
          exact ⟨rfl, below_chain hW.out.b hb9⟩
end Go.Proofs.YthcaecccpjdpkaaDoor
