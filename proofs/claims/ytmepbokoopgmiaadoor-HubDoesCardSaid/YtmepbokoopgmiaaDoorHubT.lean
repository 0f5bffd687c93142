/-
  Contract of the reference's May of a tap. No condition beyond those each theorem names.
-/
import Derived.Test.YtmepbokoopgmiaaDoorHubS
namespace Go.Proofs.YtmepbokoopgmiaaDoor
open Go.RowKit
set_option linter.unusedSimpArgs false
set_option linter.unusedVariables false

theorem zeroEv_built (w : World) : (Instr.build 34 #[]).run Tryd.prog w = .ok (.agg (evL zeroEv).toArray) w := by kernel_rfl
section
variable {P : Program}
theorem wpList_bd_g {ops : Array Oper} {rest : List Oper} {o : Oper} {a : Act} {w : World} {Q : Exit → Act → World → Prop} (hgd : Region.wanted o (yielded ops a.tmps) = true) (t : TypeId) (ho : o.op = .build t #[]) (cells : Array Value) (hx : (Instr.build t #[]).run P w = .ok (.agg cells) w)
    (h : wpList P ops Q rest (a.put o.dst (.agg cells)) w) : wpList P ops Q (o :: rest) a w := by
  refine wpList_step fun K hK => ?_
  rw [if_pos hgd]
  unfold Oper.wp execOp
  simp only [ho, List.map_toArray, List.map_nil, Sem.run_bind, Sem.run_pure, Result.andThen_ok, hx]
  exact hK _ _ h
end
theorem prev_gap {xs : List It} {k : Nat} (h : ∀ j, j < k → okIt (prevAt xs j) (xs.getD j zeroIt) = true) (hk : k ≤ xs.length) : decide (prevAt xs k = gapIt) = (prevAt xs k).1 := by
  unfold prevAt
  by_cases h0 : k = 0
  · rw [if_pos h0]
    rfl
  · rw [if_neg h0]
    have h1 := h (k - 1) (by omega)
    generalize xs.getD (k - 1) zeroIt = x at *
    unfold okIt at h1
    cases hx : x.1
    · refine decide_eq_false fun e => ?_
      rw [e] at hx
      cases hx
    · rw [hx] at h1
      simp at h1
      rw [decide_eq_true h1.1]
theorem gap_ev {x : It} (hx : x.1 = true) : decide (x = gapIt) = decide (x.2 = zeroEv) := by
  obtain ⟨g, e⟩ := x
  simp only at hx
  subst hx
  by_cases h : e = zeroEv
  · subst h
    exact (decide_eq_true (show (true, zeroEv) = gapIt from rfl)).trans (decide_eq_true rfl).symm
  · rw [decide_eq_false h]
    exact decide_eq_false fun h2 => h (Prod.mk.inj h2).2

set_option maxRecDepth 100000 in
set_option maxHeartbeats 8000000 in
theorem may23_any (A : Option Addr) (n c : Nat) (lost : Bool) (xs : List It) (ho : ItsOk xs) (w : World) (hr : Rd w 0 101 A n (itsL xs)) :
    Calls Tryd.prog 50 #[.agg #[.slice A n c, .bool lost]] w (GivesB w (itsMay xs)) := by
  have HR := hid hr
  have hl := hid (rd_len ho hr)
  have HO := hid ho
  clear hr ho
  go_enter Tryd.func50, Tryd.ntmps50
  go_wp2_with (refine wpList_bx rfl 47 _ rfl #[.slice A n c, .bool lost] rfl ?_; intro w1 hB1 hb1 hy; clear hy)
  go_loopw [3] (fun i wx => ∃ k : Nat, k ≤ n ∧ k ≤ 65 ∧ i = .int .i64 k ∧ Blk wx w.heap.size 47 #[.slice A n c, .bool lost] ∧ Below w.heap.size w wx ∧ (∀ j, j < k → okIt (prevAt xs j) (xs.getD j zeroIt) = true)) (fun i _ => 65 - (intOf i).toNat)
  case atStart => exact ⟨0, Nat.zero_le _, by omega, rfl, hB1, hb1, fun j hj => absurd hj (Nat.not_lt_zero _)⟩
  case round =>
    clear hB1 hb1
    obtain ⟨k, hk, hk65, rfl, hB, hb, hgood⟩ := hrel
    have HGd := hid hgood
    have HB := hid hB
    have Hb := hid hb
    clear hgood hB hb
    obtain ⟨a0, a1, a2, a3⟩ := two_facts HB.out
    have htz : (0 : Int) ≤ (k : Int) := by omega
    by_cases hlt : k < n
    · have hti : (k : Int) < (n : Int) := by omega
      by_cases h64 : k ≤ 64
      · have ht64 : (k : Int) ≤ 64 := by omega
        have hx : xs[k]? = some (xs[k]'(by have := hl.out; omega)) := List.getElem?_eq_getElem _
        have hxd : xs.getD k zeroIt = xs[k]'(by have := hl.out; omega) := by rw [List.getD_eq_getElem?_getD, hx]; rfl
        generalize xs[k]'(by have := hl.out; omega) = x at *
        have ox : ItOk x := HO.out x (List.mem_of_getElem? hx)
        obtain ⟨b, o, hA, _, rx⟩ := (HR.out.below Hb.out).item HO.out hx
        have hprev : 0 < k → wr.cell? ⟨b, o + (k - 1) * 101, none⟩ = some (.bool (prevAt xs k).1) := fun h0 => by
          have hp : xs[k - 1]? = some (xs[k - 1]'(by have := hl.out; omega)) := List.getElem?_eq_getElem _
          obtain ⟨b', o', hA', _, rp⟩ := (HR.out.below Hb.out).item HO.out hp
          rw [hA] at hA'
          cases hA'
          have hpv : prevAt xs k = xs[k - 1]'(by have := hl.out; omega) := by
            unfold prevAt
            rw [if_neg (by omega), List.getD_eq_getElem?_getD, hp]
            rfl
          rw [hpv]
          exact rp 0 _ rfl
        subst hA
        have hszx := it_size x ox
        have hszX := it_sizeA x ox
        have hszE := ev_size x.2 ox
        have hXs : (itL x).toArray.size = zeroI.size := by rw [List.size_toArray, itL_len x ox]; rfl
        have hXo : ∀ v ∈ (itL x).toArray, v.oneCell' = true := fun v hv => itL_one x v (by simpa using hv)
        have hX0 : (itL x).toArray[0]? = some (.bool x.1) := rfl
        have hXE : Hid (∀ j, j < (evL x.2).length → (itL x).toArray[1 + j]? = (evL x.2)[j]?) := hid fun j _ => by
          rw [List.getElem?_toArray, Nat.add_comm]
          rfl
        have HE : ∀ W, (Op.equalIn 10000 34 (.agg (evL x.2).toArray) (.agg (evL zeroEv).toArray)).run Tryd.prog W = .ok (decide (x.2 = zeroEv)) W := fun W => run_eq_ev 9996 x.2 zeroEv ox zeroHd_ok W
        have hev := hid (fun W => ev23_any x.2 ox W)
        have hpg := prev_gap HGd.out (by have := hl.out; omega)
        have hok : okIt (prevAt xs k) (xs.getD k zeroIt) = !(x.1 && (!decide (x = gapIt) || decide (prevAt xs k = gapIt)) || !x.1 && !evMay x.2) := by rw [hxd]; rfl
        rw [hpg] at hok
        have hge := fun h => gap_ev (x := x) h
        have HOK := hid hok
        have HGE := hid hge
        have hp0 : k = 0 → (prevAt xs k).1 = false := fun h => by rw [h]; rfl
        generalize hpp : (prevAt xs k).1 = pg at *
        generalize hq2 : decide (x.2 = zeroEv) = q2 at *
        generalize hq3 : evMay x.2 = q3 at *
        generalize hqg : decide (x = gapIt) = qg at *
        generalize hq0 : x.1 = q0 at *
        have hzb := hid zeroEv_built
        clear hx hxd hok hge hpp hq2 hq3 hqg hq0 hpg
        generalize hXL : itL x = XL at *
        generalize hEL : evL x.2 = EL at *
        generalize evL zeroEv = ZE at *
        clear hXL hEL ox
        obtain ⟨ad, had⟩ : ∃ ad, o + k * 101 = ad := ⟨_, rfl⟩
        rw [had] at rx
        have hpost : Hid (∀ w4 w5, Below wr.heap.size wr w4 → w4.grownBy w5 (some wr.heap.size) → Blk w5 wr.heap.size 36 XL.toArray → Below wr.heap.size wr w5 ∧ w5.cell? ⟨wr.heap.size, 0, none⟩ = some (.bool q0) ∧ w5.rangeAt wr.heap.size 1 EL ∧ Blk w5 w.heap.size 47 #[.slice (some ⟨b, o, none⟩) n c, .bool lost] ∧ (0 < k → w5.cell? ⟨b, o + (k - 1) * 101, none⟩ = some (.bool pg))) := hid fun w4 w5 hb4 hg5 hX5 => by
          have hb5 : Below wr.heap.size wr w5 := hb4.grown hg5 hb4.size (by intro g e; cases e; exact Nat.le_refl _)
          exact ⟨hb5, hX5.cellv hX0, hX5.range_from 1 EL hXE.out, HB.out.belowS hb5, fun h => (World.cell?_of_block (hb5.block b (World.block_lt_of_cell? wr _ (hprev h)))).trans (hprev h)⟩
        cases q0
        · clear hprev HGE
          cases q3
          · go_wp2_with (first
          | ((with_reducible refine at_load 36 ?_); refine wpList_load_mid rfl 36 _ rfl b ad rfl XL _ rx Tryd.underlying36 rfl hszx ?_)
          | ((with_reducible refine at_alloc 36 ?_); refine wpList_al rfl 36 rfl zeroI (zeroI_run _) ?_; intro w4 hX4 hb4 hz4)
          | ((with_reducible refine at_store 36 ?_); refine wpList_str rfl 36 _ _ rfl wr.heap.size XL.toArray rfl rfl _ zeroI hX4 hXs zeroI_size hXo ?_; intro w5 hX5 hg5 hz5; obtain ⟨hb5, d0, r5, hT5, hp5⟩ := hpost.out w4 w5 hb4 hg5 hX5; obtain ⟨a0, a1, a2, a3⟩ := two_facts hT5)
          | ((with_reducible refine at_load 34 ?_); refine wpList_ldm_g (by kernel_rfl) 34 _ rfl wr.heap.size 1 rfl EL _ r5 Tryd.underlying34 rfl hszE ?_)
          | ((with_reducible refine at_build 34 ?_); refine wpList_bd_g (by kernel_rfl) 34 rfl _ (hzb.out _) ?_)
          | ((with_reducible refine (hev.out _).mono ?_); rintro e w6 ⟨rfl, hb6⟩; clear a0 a1 a2 a3 d0; obtain ⟨a0, a1, a2, a3⟩ := two_facts (hT5.belowS hb6); have d0 := (hX5.belowS hb6).cellv hX0))
            go_ret
            have hno := itsMay_no xs k (by have := hl.out; omega) (HOK.out.trans (by simp))
            rw [hno]
            exact ⟨rfl, Hb.out.trans ((hb5.trans (hb6.mono hb5.size)).mono Hb.out.size)⟩
          · by_cases h0 : k = 0
            · have hk0 : ¬ (0 : Int) < (k : Int) := by omega
              clear h0 hp0
              go_wp2_with (first
          | ((with_reducible refine at_load 36 ?_); refine wpList_load_mid rfl 36 _ rfl b ad rfl XL _ rx Tryd.underlying36 rfl hszx ?_)
          | ((with_reducible refine at_alloc 36 ?_); refine wpList_al rfl 36 rfl zeroI (zeroI_run _) ?_; intro w4 hX4 hb4 hz4)
          | ((with_reducible refine at_store 36 ?_); refine wpList_str rfl 36 _ _ rfl wr.heap.size XL.toArray rfl rfl _ zeroI hX4 hXs zeroI_size hXo ?_; intro w5 hX5 hg5 hz5; obtain ⟨hb5, d0, r5, hT5, hp5⟩ := hpost.out w4 w5 hb4 hg5 hX5; obtain ⟨a0, a1, a2, a3⟩ := two_facts hT5)
          | ((with_reducible refine at_load 34 ?_); refine wpList_ldm_g (by kernel_rfl) 34 _ rfl wr.heap.size 1 rfl EL _ r5 Tryd.underlying34 rfl hszE ?_)
          | ((with_reducible refine at_build 34 ?_); refine wpList_bd_g (by kernel_rfl) 34 rfl _ (hzb.out _) ?_)
          | ((with_reducible refine (hev.out _).mono ?_); rintro e w6 ⟨rfl, hb6⟩; clear a0 a1 a2 a3 d0; obtain ⟨a0, a1, a2, a3⟩ := two_facts (hT5.belowS hb6); have d0 := (hX5.belowS hb6).cellv hX0))
              refine ⟨⟨k + 1, by omega, by omega, by go_num, (hT5.belowS hb6), Hb.out.trans ((hb5.trans (hb6.mono hb5.size)).mono Hb.out.size), fun j hj => ?_⟩, by simp [intOf]; omega⟩
              rcases Nat.lt_succ_iff_lt_or_eq.1 hj with h | rfl
              · exact HGd.out j h
              · rw [HOK.out]; simp
            · have hk0 : (0 : Int) < (k : Int) := by omega
              go_wp2_with (first
          | ((with_reducible refine at_load 36 ?_); refine wpList_load_mid rfl 36 _ rfl b ad rfl XL _ rx Tryd.underlying36 rfl hszx ?_)
          | ((with_reducible refine at_alloc 36 ?_); refine wpList_al rfl 36 rfl zeroI (zeroI_run _) ?_; intro w4 hX4 hb4 hz4)
          | ((with_reducible refine at_store 36 ?_); refine wpList_str rfl 36 _ _ rfl wr.heap.size XL.toArray rfl rfl _ zeroI hX4 hXs zeroI_size hXo ?_; intro w5 hX5 hg5 hz5; obtain ⟨hb5, d0, r5, hT5, hp5⟩ := hpost.out w4 w5 hb4 hg5 hX5; obtain ⟨a0, a1, a2, a3⟩ := two_facts hT5)
          | ((with_reducible refine at_load 34 ?_); refine wpList_ldm_g (by kernel_rfl) 34 _ rfl wr.heap.size 1 rfl EL _ r5 Tryd.underlying34 rfl hszE ?_)
          | ((with_reducible refine at_build 34 ?_); refine wpList_bd_g (by kernel_rfl) 34 rfl _ (hzb.out _) ?_)
          | ((with_reducible refine (hev.out _).mono ?_); rintro e w6 ⟨rfl, hb6⟩; clear a0 a1 a2 a3 d0; obtain ⟨a0, a1, a2, a3⟩ := two_facts (hT5.belowS hb6); have d0 := (hX5.belowS hb6).cellv hX0))
              refine ⟨⟨k + 1, by omega, by omega, by go_num, (hT5.belowS hb6), Hb.out.trans ((hb5.trans (hb6.mono hb5.size)).mono Hb.out.size), fun j hj => ?_⟩, by simp [intOf]; omega⟩
              rcases Nat.lt_succ_iff_lt_or_eq.1 hj with h | rfl
              · exact HGd.out j h
              · rw [HOK.out]; simp
        · have hge2 := HGE.out rfl
          subst hge2
          clear HGE hev
          cases qg
          · go_wp2_with (first
          | ((with_reducible refine at_load 36 ?_); refine wpList_load_mid rfl 36 _ rfl b ad rfl XL _ rx Tryd.underlying36 rfl hszx ?_)
          | ((with_reducible refine at_alloc 36 ?_); refine wpList_al rfl 36 rfl zeroI (zeroI_run _) ?_; intro w4 hX4 hb4 hz4)
          | ((with_reducible refine at_store 36 ?_); refine wpList_str rfl 36 _ _ rfl wr.heap.size XL.toArray rfl rfl _ zeroI hX4 hXs zeroI_size hXo ?_; intro w5 hX5 hg5 hz5; obtain ⟨hb5, d0, r5, hT5, hp5⟩ := hpost.out w4 w5 hb4 hg5 hX5; obtain ⟨a0, a1, a2, a3⟩ := two_facts hT5)
          | ((with_reducible refine at_load 34 ?_); refine wpList_ldm_g (by kernel_rfl) 34 _ rfl wr.heap.size 1 rfl EL _ r5 Tryd.underlying34 rfl hszE ?_)
          | ((with_reducible refine at_build 34 ?_); refine wpList_bd_g (by kernel_rfl) 34 rfl _ (hzb.out _) ?_)
          | ((with_reducible refine (hev.out _).mono ?_); rintro e w6 ⟨rfl, hb6⟩; clear a0 a1 a2 a3 d0; obtain ⟨a0, a1, a2, a3⟩ := two_facts (hT5.belowS hb6); have d0 := (hX5.belowS hb6).cellv hX0))
            go_ret
            have hno := itsMay_no xs k (by have := hl.out; omega) (HOK.out.trans (by simp))
            rw [hno]
            exact ⟨rfl, Hb.out.trans (hb5.mono Hb.out.size)⟩
          · by_cases h0 : k = 0
            · have hk0 : ¬ (0 : Int) < (k : Int) := by omega
              have hp1 := hp0 h0
              subst hp1
              clear h0 hp0
              go_wp2_with (first
          | ((with_reducible refine at_load 36 ?_); refine wpList_load_mid rfl 36 _ rfl b ad rfl XL _ rx Tryd.underlying36 rfl hszx ?_)
          | ((with_reducible refine at_alloc 36 ?_); refine wpList_al rfl 36 rfl zeroI (zeroI_run _) ?_; intro w4 hX4 hb4 hz4)
          | ((with_reducible refine at_store 36 ?_); refine wpList_str rfl 36 _ _ rfl wr.heap.size XL.toArray rfl rfl _ zeroI hX4 hXs zeroI_size hXo ?_; intro w5 hX5 hg5 hz5; obtain ⟨hb5, d0, r5, hT5, hp5⟩ := hpost.out w4 w5 hb4 hg5 hX5; obtain ⟨a0, a1, a2, a3⟩ := two_facts hT5)
          | ((with_reducible refine at_load 34 ?_); refine wpList_ldm_g (by kernel_rfl) 34 _ rfl wr.heap.size 1 rfl EL _ r5 Tryd.underlying34 rfl hszE ?_)
          | ((with_reducible refine at_build 34 ?_); refine wpList_bd_g (by kernel_rfl) 34 rfl _ (hzb.out _) ?_)
          | ((with_reducible refine (hev.out _).mono ?_); rintro e w6 ⟨rfl, hb6⟩; clear a0 a1 a2 a3 d0; obtain ⟨a0, a1, a2, a3⟩ := two_facts (hT5.belowS hb6); have d0 := (hX5.belowS hb6).cellv hX0))
              refine ⟨⟨k + 1, by omega, by omega, by go_num, hT5, Hb.out.trans (hb5.mono Hb.out.size), fun j hj => ?_⟩, by simp [intOf]; omega⟩
              rcases Nat.lt_succ_iff_lt_or_eq.1 hj with h | rfl
              · exact HGd.out j h
              · rw [HOK.out]; simp
            · have hk0 : (0 : Int) < (k : Int) := by omega
              have hkn : 0 < k := by omega
              clear hp0
              cases pg
              · go_wp2_with (first
          | ((with_reducible refine at_load 36 ?_); refine wpList_load_mid rfl 36 _ rfl b ad rfl XL _ rx Tryd.underlying36 rfl hszx ?_)
          | ((with_reducible refine at_alloc 36 ?_); refine wpList_al rfl 36 rfl zeroI (zeroI_run _) ?_; intro w4 hX4 hb4 hz4)
          | ((with_reducible refine at_store 36 ?_); refine wpList_str rfl 36 _ _ rfl wr.heap.size XL.toArray rfl rfl _ zeroI hX4 hXs zeroI_size hXo ?_; intro w5 hX5 hg5 hz5; obtain ⟨hb5, d0, r5, hT5, hp5⟩ := hpost.out w4 w5 hb4 hg5 hX5; obtain ⟨a0, a1, a2, a3⟩ := two_facts hT5; have p5 := hp5 hkn)
          | ((with_reducible refine at_load 34 ?_); refine wpList_ldm_g (by kernel_rfl) 34 _ rfl wr.heap.size 1 rfl EL _ r5 Tryd.underlying34 rfl hszE ?_)
          | ((with_reducible refine at_build 34 ?_); refine wpList_bd_g (by kernel_rfl) 34 rfl _ (hzb.out _) ?_)
          | ((with_reducible refine (hev.out _).mono ?_); rintro e w6 ⟨rfl, hb6⟩; clear a0 a1 a2 a3 d0; obtain ⟨a0, a1, a2, a3⟩ := two_facts (hT5.belowS hb6); have d0 := (hX5.belowS hb6).cellv hX0))
                refine ⟨⟨k + 1, by omega, by omega, by go_num, hT5, Hb.out.trans (hb5.mono Hb.out.size), fun j hj => ?_⟩, by simp [intOf]; omega⟩
                rcases Nat.lt_succ_iff_lt_or_eq.1 hj with h | rfl
                · exact HGd.out j h
                · rw [HOK.out]; simp
              · go_wp2_with (first
          | ((with_reducible refine at_load 36 ?_); refine wpList_load_mid rfl 36 _ rfl b ad rfl XL _ rx Tryd.underlying36 rfl hszx ?_)
          | ((with_reducible refine at_alloc 36 ?_); refine wpList_al rfl 36 rfl zeroI (zeroI_run _) ?_; intro w4 hX4 hb4 hz4)
          | ((with_reducible refine at_store 36 ?_); refine wpList_str rfl 36 _ _ rfl wr.heap.size XL.toArray rfl rfl _ zeroI hX4 hXs zeroI_size hXo ?_; intro w5 hX5 hg5 hz5; obtain ⟨hb5, d0, r5, hT5, hp5⟩ := hpost.out w4 w5 hb4 hg5 hX5; obtain ⟨a0, a1, a2, a3⟩ := two_facts hT5; have p5 := hp5 hkn)
          | ((with_reducible refine at_load 34 ?_); refine wpList_ldm_g (by kernel_rfl) 34 _ rfl wr.heap.size 1 rfl EL _ r5 Tryd.underlying34 rfl hszE ?_)
          | ((with_reducible refine at_build 34 ?_); refine wpList_bd_g (by kernel_rfl) 34 rfl _ (hzb.out _) ?_)
          | ((with_reducible refine (hev.out _).mono ?_); rintro e w6 ⟨rfl, hb6⟩; clear a0 a1 a2 a3 d0; obtain ⟨a0, a1, a2, a3⟩ := two_facts (hT5.belowS hb6); have d0 := (hX5.belowS hb6).cellv hX0))
                go_ret
                have hno := itsMay_no xs k (by have := hl.out; omega) (HOK.out.trans (by simp))
                rw [hno]
                exact ⟨rfl, Hb.out.trans (hb5.mono Hb.out.size)⟩
      · have ht64 : ¬ (k : Int) ≤ 64 := by omega
        have hbig : ¬ (n : Int) ≤ 64 := by omega
        go_wp2
        go_ret
        have hno : itsMay xs = false := by
          unfold itsMay
          rw [decide_eq_false (by have := hl.out; omega)]
          rfl
        rw [hno]
        exact ⟨by simp <;> omega, Hb.out⟩
    · obtain rfl : k = n := by omega
      have hti : ¬ (k : Int) < (k : Int) := by omega
      by_cases h64 : k ≤ 64
      · have ht64 : (k : Int) ≤ 64 := by omega
        go_wp2
        go_ret
        rw [itsMay_yes xs (by have := hl.out; omega) (by rw [hl.out]; exact HGd.out)]
        exact ⟨by simp <;> omega, Hb.out⟩
      · have ht64 : ¬ (k : Int) ≤ 64 := by omega
        go_wp2
        go_ret
        have hno : itsMay xs = false := by
          unfold itsMay
          rw [decide_eq_false (by have := hl.out; omega)]
          rfl
        rw [hno]
        exact ⟨by simp <;> omega, Hb.out⟩
end Go.Proofs.YtmepbokoopgmiaaDoor
