/-
  Contracts of the reference's Taken, Freed, Take, Free, Same, and of the law's spoil. No condition beyond those each theorem names.
-/
import Derived.Test.YtopicgodflhjcaaLockG
namespace Go.Proofs.Ytopicgodflhjcaa
open Go.RowKit Go.Shelf

set_option maxHeartbeats 1000000 in
theorem refTaken_any (o x : Int) (A : Option Addr) (n c : Nat) (ws : List Int) (w : World) (hn : n ≤ 900) (hR : Rd w 0 1 A n (ws.map iv)) :
    Calls Try.prog 31 #[.agg #[.int .i64 o, .slice A n c], .int .i64 x] w (GivesL w ((allL o ws ++ [x]).headD 0) (allL o ws ++ [x]).tail) := by
  obtain ⟨i0, hi0, hz0, hz1, hz2⟩ := info_parts int_info
  have hl : ws.length = n := by simpa using hR.1
  have hb2 := (below_alloc1 w (.cells #[.int .i64 o, .slice A n c] 24)).alloc (by simp) (.cells #[.int .i64 0, .slice none 0 0] 24)
  have hAll := hid (refAll_any o A n c ws _ (by omega) (hR.below hb2))
  have B2 := Blk.new (w.alloc (.cells #[.int .i64 o, .slice A n c] 24)) 24 #[.int .i64 0, .slice none 0 0]
  have hle : (allL o ws).length ≤ 901 := by rw [allL_len]; unfold howMany; split <;> omega
  have H2 := hid B2
  have HB2 := hid hb2
  have HLE := hid hle
  clear hR hl B2 hb2 hle
  generalize allL o ws = L at *
  go_enter Try.func31, Try.ntmps31
  go_wp2_with (first
    | ((with_reducible refine (hAll.out).mono ?_); rintro e w1 ⟨D, d, rfl, hO, hb1⟩)
    | (at_builtin; refine wpList_app _ rfl _ _ _ rfl _ 3 i0 _ 1 8 Try.underlying22 hi0 hz0 hz1 hz2 rfl (by omega) D L.length d (L.map iv) rfl (hO.alloc _) (some ⟨w1.heap.size, 0, none⟩) 1 1 w1.heap.size [iv x] rfl (Rd.lit w1 _ 1 [iv x] rfl) (iv_one [x]) (by have := HLE.out; simp only [maxLen]; omega) (by have := HLE.out; omega) (by have := hb1.size; simp at this ⊢; omega) ?_; intro D' c' w2 hown hg hat))
  have hs1 := hb1.size
  simp only [World.size_alloc] at hs1
  have hown' : Own w2 (w.heap.size + 1 + 1) 3 1 D' (L.length + 1) c' ((L ++ [x]).map iv) := by
    have := hown
    simp only [World.size_alloc] at this
    simpa using this
  have hb1' := below_al (below_al hb1)
  have hO' : Own w1 (w.heap.size + 1 + 1) 3 1 D L.length d (L.map iv) := by
    have := hO
    simp only [World.size_alloc] at this
    exact this
  have hb12 : Below (w.heap.size + 1 + 1) w1 w2 := ((Below.refl _ w1).alloc hs1 (.cells #[.int .i64 x] 3)).grown hg (by simp; omega) (fun g e => (hO'.row_lt g e).1)
  have B2 := H2.out.belowS hb1
  simp only [World.size_alloc] at B2
  have B2' := B2.below hb12 (by omega)
  have hb02 := hb1'.trans (hb12.mono (by omega))
  have hnc := hown'.cap
  (with_reducible refine (refOf_any D' (L.length + 1) c' (L ++ [x]) w2 (by have := HLE.out; omega) hnc.1 (hown'.rd.low (Nat.zero_le _))).mono ?_); rintro e w3 ⟨D3, c3, rfl, hO3, hb3⟩
  obtain ⟨a0, a1, a2, a3⟩ := two_facts (B2'.belowS hb3)
  have hs2 := hb12.size
  have hs3 := hb3.size
  generalize (L ++ [x]).headD 0 = hd at *
  generalize (L ++ [x]).tail = tl at *
  have B3 := B2'.belowS hb3
  have hb03 := below_chain hb02 hb3
  clear hO hO' hown hown' hg hat hb1 hb1' hb12 hb02 B2 B2' hb3 hAll H2 HB2
  go_wp2
  have hCf := chg_both w3 (w.heap.size + 1) (.int .i64 hd) (.slice D3 tl.length c3)
  have hOf := (hO3.keep fun b hl hr => hCf.block b hl (fun e => by have := (hO3.row_lt b hr).1; omega)).low (lo' := w.heap.size) (by omega)
  have hbf := hb03.trans (hCf.below hb03.size (fun b e => by omega))
  have Bf := B3.both (c := .int .i64 hd) (d := .slice D3 tl.length c3)
  generalize (w3.setCell ⟨w.heap.size + 1, 0, none⟩ (.int .i64 hd)).setCell ⟨w.heap.size + 1, 1, none⟩ (.slice D3 tl.length c3) = wf at *
  obtain ⟨g0, g1, _, _⟩ := two_facts Bf
  exact bodyPost_ret (v := .agg #[.int .i64 hd, .slice D3 tl.length c3]) (by simp [results, Try.f31, go_sem, g0, g1]) rfl ⟨D3, c3, rfl, hOf, hbf⟩

set_option maxHeartbeats 1000000 in
theorem refFreed_any (o : Int) (A : Option Addr) (n c : Nat) (ws : List Int) (w : World) (hn : n ≤ 900) (hR : Rd w 0 1 A n (ws.map iv)) (ho : o ≠ 0) :
    Calls Try.prog 32 #[.agg #[.int .i64 o, .slice A n c]] w (GivesL w (ws.headD 0) ws.tail) := by
  have hl : ws.length = n := by simpa using hR.1
  have hb2 := (below_alloc1 w (.cells #[.int .i64 o, .slice A n c] 24)).alloc (by simp) (.cells #[.int .i64 0, .slice none 0 0] 24)
  have hall : allL o ws = o :: ws := by unfold allL; rw [if_neg ho]
  have hA1 := refAll_any o A n c ws _ (by omega) (hR.below hb2)
  rw [hall] at hA1
  have hAll := hid hA1
  have B2 := Blk.new (w.alloc (.cells #[.int .i64 o, .slice A n c] 24)) 24 #[.int .i64 0, .slice none 0 0]
  have H2 := hid B2
  have HB2 := hid hb2
  have HL := hid hl
  clear hR hl B2 hb2 hA1 hall ho
  go_enter Try.func32, Try.ntmps32
  go_wp2_with fail
  (with_reducible refine (hAll.out).mono ?_); rintro e w1 ⟨D, d, rfl, hO, hb1⟩
  have hcap := hO.cap.1
  obtain ⟨b, off, rfl, _, _⟩ := hO.rd.int (k := 0) (by simp)
  have hs1 := hb1.size
  simp only [World.size_alloc] at hs1
  have hrd := (hO.rd.low (lo' := 0) (Nat.zero_le _)).tail1 hcap
  have hb1' := below_al (below_al hb1)
  have B2 := H2.out.belowS hb1
  simp only [World.size_alloc] at B2
  simp only [List.length_cons, Nat.add_sub_cancel] at hrd hcap
  clear hO hb1 hAll
  by_cases hd1 : d = 1
  · subst hd1
    rw [if_pos rfl] at hrd
    obtain rfl : ws = [] := List.eq_nil_of_length_eq_zero (by omega)
    have hrd0 : Rd w1 0 1 (some ⟨b, off, none⟩) 0 (([] : List Int).map iv) := hrd
    go_wp2_with fail
    (with_reducible refine (refOf_any (some ⟨b, off, none⟩) 0 0 [] w1 (by have := HL.out; omega) (by omega) hrd0).mono ?_); rintro e w3 ⟨D3, c3, rfl, hO3, hb3⟩
    obtain ⟨a0, a1, a2, a3⟩ := two_facts (B2.belowS hb3)
    have hs3 := hb3.size
    generalize ([] : List Int).headD 0 = hd at *
    generalize ([] : List Int).tail = tl at *
    have B3 := B2.belowS hb3
    have hb03 := below_chain hb1' hb3
    clear hb1' B2 hb3 H2 HB2 hcap
    go_wp2
    have hCf := chg_both w3 (w.heap.size + 1) (.int .i64 hd) (.slice D3 tl.length c3)
    have hOf := (hO3.keep fun b hl hr => hCf.block b hl (fun e => by have := (hO3.row_lt b hr).1; omega)).low (lo' := w.heap.size) (by omega)
    have hbf := hb03.trans (hCf.below hb03.size (fun b e => by omega))
    have Bf := B3.both (c := .int .i64 hd) (d := .slice D3 tl.length c3)
    generalize (w3.setCell ⟨w.heap.size + 1, 0, none⟩ (.int .i64 hd)).setCell ⟨w.heap.size + 1, 1, none⟩ (.slice D3 tl.length c3) = wf at *
    obtain ⟨g0, g1, _, _⟩ := two_facts Bf
    exact bodyPost_ret (v := .agg #[.int .i64 hd, .slice D3 tl.length c3]) (by simp [results, Try.f32, go_sem, g0, g1]) rfl ⟨D3, c3, rfl, hOf, hbf⟩
  · rw [if_neg hd1] at hrd
    have h1n : (1 : Int) ≤ ((ws.length + 1 : Nat) : Int) := by omega
    have h1d : ((ws.length + 1 : Nat) : Int) ≤ (d : Int) := by omega
    have hd1' : (1 : Int) ≤ (d : Int) := by omega
    go_wp2_with fail
    (with_reducible refine (refOf_any (some ⟨b, off + 1, none⟩) ws.length (d - 1) ws w1 (by have := HL.out; omega) (by omega) hrd).mono ?_); rintro e w3 ⟨D3, c3, rfl, hO3, hb3⟩
    obtain ⟨a0, a1, a2, a3⟩ := two_facts (B2.belowS hb3)
    have hs3 := hb3.size
    have hhd : ws.head?.getD 0 = ws.headD 0 := by cases ws <;> rfl
    generalize ws.head?.getD 0 = hd0 at *
    subst hhd
    generalize ws.headD 0 = hd at *
    generalize ws.tail = tl at *
    have B3 := B2.belowS hb3
    have hb03 := below_chain hb1' hb3
    clear hb1' B2 hb3 H2 HB2 hcap
    go_wp2
    have hCf := chg_both w3 (w.heap.size + 1) (.int .i64 hd) (.slice D3 tl.length c3)
    have hOf := (hO3.keep fun b hl hr => hCf.block b hl (fun e => by have := (hO3.row_lt b hr).1; omega)).low (lo' := w.heap.size) (by omega)
    have hbf := hb03.trans (hCf.below hb03.size (fun b e => by omega))
    have Bf := B3.both (c := .int .i64 hd) (d := .slice D3 tl.length c3)
    generalize (w3.setCell ⟨w.heap.size + 1, 0, none⟩ (.int .i64 hd)).setCell ⟨w.heap.size + 1, 1, none⟩ (.slice D3 tl.length c3) = wf at *
    obtain ⟨g0, g1, _, _⟩ := two_facts Bf
    exact bodyPost_ret (v := .agg #[.int .i64 hd, .slice D3 tl.length c3]) (by simp [results, Try.f32, go_sem, g0, g1]) rfl ⟨D3, c3, rfl, hOf, hbf⟩

set_option maxHeartbeats 2000000 in
theorem refTake_bad (o x : Int) (A : Option Addr) (n c : Nat) (ws : List Int) (w : World) (hn : n ≤ 900) (hR : Rd w 0 1 A n (ws.map iv)) (hbad : askedE o ws x ≠ 0 ∨ 0 ≤ fnd (allL o ws) x) :
    Calls Try.prog 13 #[.agg #[.int .i64 o, .slice A n c], .int .i64 x] w (GivesT w (takeL o ws x)) := by
  have hb2 := (below_alloc1 w (.cells #[.int .i64 o, .slice A n c] 24)).alloc (by simp) (.cells #[.int .i64 0, .slice none 0 0] 24)
  have hR2 := hR.below hb2
  have hM := hid (refMay_any o A n c ws _ (by omega) hR2)
  have hT := hid (refTask_any x)
  have hF := hid (fun W (h : Rd W 0 1 A n (ws.map iv)) => refFind_any o x A n c ws W (by omega) h)
  have HR := hid hR2
  have H1 := hid ((Blk.new w 24 #[.int .i64 o, .slice A n c]).alloc (.cells #[.int .i64 0, .slice none 0 0] 24))
  have B2 := Blk.new (w.alloc (.cells #[.int .i64 o, .slice A n c] 24)) 24 #[.int .i64 0, .slice none 0 0]
  simp only [World.size_alloc] at B2
  have H2 := hid B2
  have HTL : Hid (takeL o ws x = if askedE o ws x ≠ 0 then (0, [], false, askedE o ws x) else (0, [], false, 2)) := hid (by
    unfold takeL
    split
    · rfl
    · rcases hbad with h | h
      · contradiction
      · rw [if_pos h])
  unfold askedE at HTL hbad
  clear hR hR2 hb2 B2
  generalize takeL o ws x = R at *
  generalize mayL o ws = q at *
  generalize taskB x = q2 at *
  generalize fnd (allL o ws) x = Z at *
  have hRR : Hid (R = (0, [], false, if q then 2 else 8)) := hid (by
    rw [HTL.out]
    cases q <;> cases q2 <;> simp)
  cases q
  · obtain rfl := hRR.out
    clear HTL hbad hRR
    go_enter Try.func13, Try.ntmps13
    go_wp2_with ((with_reducible refine (hM.out).mono ?_); rintro e w1 ⟨rfl, hb1⟩; obtain ⟨c0, c1, c2, c3⟩ := two_facts (H2.out.belowS hb1))
    have hB2 := (below_al (below_al hb1)).trans ((chg_both w1 (w.heap.size + 1) (.int .i64 0) (.slice none 0 0)).below (below_al (below_al hb1)).size (fun b e => by omega))
    exact bodyPost_ret (v := .tuple #[.agg #[.int .i64 0, .slice none 0 0], .bool false, .int .i64 8]) (by simp [results, Try.f13, go_sem, c0, c1]) rfl ⟨none, 0, 0, rfl, Fr.nil _ _ _, hB2⟩
  · obtain rfl := hRR.out
    have hz : q2 = true → 0 ≤ Z := by
      intro h
      subst h
      rcases hbad with h | h
      · simp at h
      · exact h
    clear HTL hbad hRR
    cases q2
    · clear hz
      go_enter Try.func13, Try.ntmps13
      go_wp2_with (first
        | ((with_reducible refine (hM.out).mono ?_); rintro e w1 ⟨rfl, hb1⟩; obtain ⟨c0, c1, c2, c3⟩ := two_facts (H2.out.belowS hb1))
        | ((with_reducible refine (hT.out _).mono ?_); rintro e w2 ⟨rfl, rfl⟩))
      have hB2 := (below_al (below_al hb1)).trans ((chg_both w1 (w.heap.size + 1) (.int .i64 0) (.slice none 0 0)).below (below_al (below_al hb1)).size (fun b e => by omega))
      exact bodyPost_ret (v := .tuple #[.agg #[.int .i64 0, .slice none 0 0], .bool false, .int .i64 2]) (by simp [results, Try.f13, go_sem, c0, c1]) rfl ⟨none, 0, 0, rfl, Fr.nil _ _ _, hB2⟩
    · have hz' := hz rfl
      clear hz
      go_enter Try.func13, Try.ntmps13
      go_wp2_with (first
        | ((with_reducible refine (hM.out).mono ?_); rintro e w1 ⟨rfl, hb1⟩; obtain ⟨a0, a1, a2, a3⟩ := two_facts (H1.out.belowS hb1))
        | ((with_reducible refine (hT.out _).mono ?_); rintro e w2 ⟨rfl, rfl⟩)
        | ((with_reducible refine (hF.out _ (HR.out.below hb1)).mono ?_); rintro e w3 ⟨rfl, hb3⟩; obtain ⟨c0, c1, c2, c3⟩ := two_facts ((H2.out.belowS hb1).belowS hb3)))
      have hb03 := below_chain (below_al (below_al hb1)) hb3
      have hB2 := hb03.trans ((chg_both w3 (w.heap.size + 1) (.int .i64 0) (.slice none 0 0)).below hb03.size (fun b e => by omega))
      exact bodyPost_ret (v := .tuple #[.agg #[.int .i64 0, .slice none 0 0], .bool false, .int .i64 2]) (by simp [results, Try.f13, go_sem, c0, c1]) rfl ⟨none, 0, 0, rfl, Fr.nil _ _ _, hB2⟩

set_option maxHeartbeats 2000000 in
theorem refTake_good (o x : Int) (A : Option Addr) (n c : Nat) (ws : List Int) (w : World) (hn : n ≤ 900) (hR : Rd w 0 1 A n (ws.map iv)) (hm : mayL o ws = true) (ht : taskB x = true) (hz : fnd (allL o ws) x < 0) :
    Calls Try.prog 13 #[.agg #[.int .i64 o, .slice A n c], .int .i64 x] w (GivesT w ((allL o ws ++ [x]).headD 0, (allL o ws ++ [x]).tail, (o == 0), 0)) := by
  have hb2 := (below_alloc1 w (.cells #[.int .i64 o, .slice A n c] 24)).alloc (by simp) (.cells #[.int .i64 0, .slice none 0 0] 24)
  have hR2 := hR.below hb2
  have hM := refMay_any o A n c ws _ (by omega) hR2
  rw [hm] at hM
  have HM := hid hM
  have hT := refTask_any x
  rw [ht] at hT
  have HT := hid hT
  have hF := hid (fun W (h : Rd W 0 1 A n (ws.map iv)) => refFind_any o x A n c ws W (by omega) h)
  have hTk := hid (fun W (h : Rd W 0 1 A n (ws.map iv)) => refTaken_any o x A n c ws W hn h)
  have HR := hid hR2
  have H1 := hid ((Blk.new w 24 #[.int .i64 o, .slice A n c]).alloc (.cells #[.int .i64 0, .slice none 0 0] 24))
  have B2 := Blk.new (w.alloc (.cells #[.int .i64 o, .slice A n c] 24)) 24 #[.int .i64 0, .slice none 0 0]
  simp only [World.size_alloc] at B2
  have H2 := hid B2
  clear hR hR2 hb2 B2 hM hT hm ht
  generalize fnd (allL o ws) x = Z at *
  generalize (allL o ws ++ [x]).headD 0 = hd at *
  generalize (allL o ws ++ [x]).tail = tl at *
  go_enter Try.func13, Try.ntmps13
  go_wp2_with (first
    | ((with_reducible refine (HM.out).mono ?_); rintro e w1 ⟨rfl, hb1⟩; obtain ⟨a0, a1, a2, a3⟩ := two_facts (H1.out.belowS hb1))
    | ((with_reducible refine (HT.out _).mono ?_); rintro e w2 ⟨rfl, rfl⟩)
    | ((with_reducible refine (hF.out _ (HR.out.below hb1)).mono ?_); rintro e w3 ⟨rfl, hb3⟩; have B3 := ((H2.out.belowS hb1).belowS hb3)))
  have hb03 := below_chain (below_al (below_al hb1)) hb3
  have hR3 := ((HR.out.below hb1).below hb3).drew
  have B3d := B3.drew
  obtain ⟨d0, d1, d2, d3⟩ := two_facts (((H1.out.belowS hb1).belowS hb3).drew)
  have hs3 := B3.lt
  have hsd : w3.drew.heap.size = w3.heap.size := rfl
  have hb03d : Below w.heap.size w w3.drew := ⟨hb03.os, hb03.tape, hb03.output, hb03.size, hb03.block⟩
  clear a0 a1 a2 a3 hb1 hb3 hb03 HR H1 H2 HM HT hF B3
  refine wp_region_held_drew (S := (fun w' => w'.cell? ⟨w.heap.size, 0, none⟩ = some (.int .i64 o) ∧ w'.cell? ⟨w.heap.size, 1, none⟩ = some (.slice A n c))) (by kernel_rfl) ⟨d0, d1⟩ (fun hHeld => ?_)
  refine reg_take (v := ?_) 0 rfl (by kernel_rfl) (by kernel_rfl) (by kernel_rfl) (fun _ _ _ h => h) (Or.inl ⟨by rfl, ?_⟩) (by assumption) ?_; rotate_left; (intro w hSw; (try dsimp only at hSw); go_simp); (try with_reducible rfl); (try simp only [Act.put, List.setIfInBounds_toArray, List.set_cons_zero, List.set_cons_succ])
  refine reg_take (v := ?_) 1 rfl (by kernel_rfl) (by kernel_rfl) (by kernel_rfl) (fun _ _ _ h => h) (Or.inl ⟨by rfl, ?_⟩) (by assumption) ?_; rotate_left; (intro w hSw; (try dsimp only at hSw); go_simp); (try with_reducible rfl); (try simp only [Act.put, List.setIfInBounds_toArray, List.set_cons_zero, List.set_cons_succ])
  refine reg_take (v := ?_) 3 rfl (by kernel_rfl) (by kernel_rfl) (by kernel_rfl) (fun _ _ _ h => h) (Or.inl ⟨by rfl, ?_⟩) (by assumption) ?_; rotate_left; (intro w hSw; (try dsimp only at hSw); go_simp); (try with_reducible rfl); (try simp only [Act.put, List.setIfInBounds_toArray, List.set_cons_zero, List.set_cons_succ])
  refine reg_take (v := ?_) 4 rfl (by kernel_rfl) (by kernel_rfl) (by kernel_rfl) (fun _ _ _ h => h) (Or.inl ⟨by rfl, ?_⟩) (by assumption) ?_; rotate_left; (intro w hSw; (try dsimp only at hSw); go_simp); (try with_reducible rfl); (try simp only [Act.put, List.setIfInBounds_toArray, List.set_cons_zero, List.set_cons_succ])
  refine reg_take (v := ?_) 5 rfl (by kernel_rfl) (by kernel_rfl) (by kernel_rfl) (fun _ _ _ h => h) (Or.inl ⟨by rfl, ?_⟩) (by assumption) ?_; rotate_left; (intro w hSw; (try dsimp only at hSw); go_simp); (try with_reducible rfl); (try simp only [Act.put, List.setIfInBounds_toArray, List.set_cons_zero, List.set_cons_succ])
  refine reg_only 2 rfl (by kernel_rfl) (fun K hK => ?_); go_simp; (with_reducible refine (hTk.out _ hR3).mono ?_); rintro e w4 ⟨D, k, rfl, hO4, hb4⟩; have B4 := B3d.belowS hb4; obtain ⟨c0, c1, c2, c3⟩ := two_facts B4; have hs4 := hb4.size; refine hK.out _ _ ?_ (fun hHeld => ?_); (exact ⟨(hb4.cell (p := ⟨w.heap.size, 0, none⟩) (cell_lt hHeld.1)).trans hHeld.1, (hb4.cell (p := ⟨w.heap.size, 1, none⟩) (cell_lt (a := ⟨w.heap.size, 1, none⟩) hHeld.2)).trans hHeld.2⟩); clear hK K; (try simp only [Act.put, List.setIfInBounds_toArray, List.set_cons_zero, List.set_cons_succ])
  refine reg_only 6 rfl (by kernel_rfl) (fun K hK => ?_); go_simp; have hCf := chg_both w4 (w.heap.size + 1) (.int .i64 hd) (.slice D tl.length k); have hOf := (hO4.keep fun b hl hr => hCf.block b hl (fun e => by have := (hO4.row_lt b hr).1; omega)).low (lo' := w.heap.size) (by have := hb03d.size; omega); have hb04 := below_chain hb03d hb4; have hbf := hb04.trans (hCf.below hb04.size (fun b e => by omega)); have Bf := B4.both (c := .int .i64 hd) (d := .slice D tl.length k); refine hK.out _ _ ?_ (fun hHeld => ?_); (exact ⟨(World.cell?_of_block (a := ⟨w.heap.size, 0, none⟩) (hCf.block _ (cell_lt hHeld.1) (by simp))).trans hHeld.1, (World.cell?_of_block (a := ⟨w.heap.size, 1, none⟩) (hCf.block _ (cell_lt (a := ⟨w.heap.size, 1, none⟩) hHeld.2) (by simp))).trans hHeld.2⟩); clear hK K; (try simp only [Act.put, List.setIfInBounds_toArray, List.set_cons_zero, List.set_cons_succ])
  obtain ⟨g0, g1, _, _⟩ := two_facts Bf
  refine reg_take (v := ?_) 7 rfl (by kernel_rfl) (by kernel_rfl) (by kernel_rfl) (fun _ _ _ h => h) (Or.inl ⟨by rfl, ?_⟩) (by assumption) ?_; rotate_left; (intro w hSw; (try dsimp only at hSw); go_simp); (try with_reducible rfl); (try simp only [Act.put, List.setIfInBounds_toArray, List.set_cons_zero, List.set_cons_succ])
  refine reg_take (v := ?_) 8 rfl (by kernel_rfl) (by kernel_rfl) (by kernel_rfl) (fun _ _ _ h => h) (Or.inl ⟨by rfl, ?_⟩) (by assumption) ?_; rotate_left; (intro w hSw; (try dsimp only at hSw); go_simp); (try with_reducible rfl); (try simp only [Act.put, List.setIfInBounds_toArray, List.set_cons_zero, List.set_cons_succ])
  refine wpAnyH_done (by kernel_rfl) ?_ _
  have hs5 := hs4
  clear hs4
  go_wp2
  refine bodyPost_ret (v := .tuple #[.agg #[.int .i64 hd, .slice D tl.length k], .bool (o == 0), .int .i64 0]) ?_ rfl ⟨D, tl.length, k, rfl, hOf.fr, hbf⟩
  simp [results, Try.f13, go_sem, g0, g1]

theorem refTake_any (o x : Int) (A : Option Addr) (n c : Nat) (ws : List Int) (w : World) (hn : n ≤ 900) (hR : Rd w 0 1 A n (ws.map iv)) :
    Calls Try.prog 13 #[.agg #[.int .i64 o, .slice A n c], .int .i64 x] w (GivesT w (takeL o ws x)) := by
  by_cases h : askedE o ws x ≠ 0 ∨ 0 ≤ fnd (allL o ws) x
  · exact refTake_bad o x A n c ws w hn hR h
  · have he : askedE o ws x = 0 := by omega
    have hz : fnd (allL o ws) x < 0 := by omega
    have hm : mayL o ws = true := by
      unfold askedE at he
      cases hm : mayL o ws with
      | true => rfl
      | false => simp [hm] at he
    have ht : taskB x = true := by
      unfold askedE at he
      cases ht : taskB x with
      | true => rfl
      | false => simp [hm, ht] at he
    have hT : takeL o ws x = ((allL o ws ++ [x]).headD 0, (allL o ws ++ [x]).tail, (o == 0), 0) := by
      unfold takeL
      rw [if_neg (by simp [he]), if_neg (by omega)]
      by_cases ho : o = 0
      · obtain ⟨h1, _⟩ := (may_iff o ws).1 hm
        have hall : allL o ws = [] := by unfold allL; rw [if_pos ho]
        rw [if_pos ho, hall, h1 ho]
        simp [ho]
      · have hall : allL o ws = o :: ws := by unfold allL; rw [if_neg ho]
        rw [if_neg ho, hall]
        simp [ho]
    rw [hT]
    exact refTake_good o x A n c ws w hn hR hm ht hz

set_option maxHeartbeats 2000000 in
theorem refFree_bad (o x : Int) (A : Option Addr) (n c : Nat) (ws : List Int) (w : World) (hn : n ≤ 900) (hR : Rd w 0 1 A n (ws.map iv)) (hbad : askedE o ws x ≠ 0 ∨ o ≠ x) :
    Calls Try.prog 14 #[.agg #[.int .i64 o, .slice A n c], .int .i64 x] w (GivesF w (freeL o ws x)) := by
  have hb2 := (below_alloc1 w (.cells #[.int .i64 o, .slice A n c] 24)).alloc (by simp) (.cells #[.int .i64 0, .slice none 0 0] 24)
  have hR2 := hR.below hb2
  have hM := hid (refMay_any o A n c ws _ (by omega) hR2)
  have hT := hid (refTask_any x)
  have H1 := hid ((Blk.new w 24 #[.int .i64 o, .slice A n c]).alloc (.cells #[.int .i64 0, .slice none 0 0] 24))
  have B2 := Blk.new (w.alloc (.cells #[.int .i64 o, .slice A n c] 24)) 24 #[.int .i64 0, .slice none 0 0]
  simp only [World.size_alloc] at B2
  have H2 := hid B2
  have HTL : Hid (freeL o ws x = if askedE o ws x ≠ 0 then (0, [], 0, askedE o ws x) else (0, [], 0, 2)) := hid (by
    unfold freeL
    split
    · rfl
    · rcases hbad with h | h
      · contradiction
      · rw [if_pos h])
  unfold askedE at HTL hbad
  clear hR hR2 hb2 B2
  generalize freeL o ws x = R at *
  generalize mayL o ws = q at *
  generalize taskB x = q2 at *
  have hRR : Hid (R = (0, [], 0, if q then 2 else 8)) := hid (by
    rw [HTL.out]
    cases q <;> cases q2 <;> simp)
  cases q
  · obtain rfl := hRR.out
    clear HTL hbad hRR
    go_enter Try.func14, Try.ntmps14
    go_wp2_with ((with_reducible refine (hM.out).mono ?_); rintro e w1 ⟨rfl, hb1⟩; obtain ⟨c0, c1, c2, c3⟩ := two_facts (H2.out.belowS hb1))
    have hB2 := (below_al (below_al hb1)).trans ((chg_both w1 (w.heap.size + 1) (.int .i64 0) (.slice none 0 0)).below (below_al (below_al hb1)).size (fun b e => by omega))
    exact bodyPost_ret (v := .tuple #[.agg #[.int .i64 0, .slice none 0 0], .int .i64 0, .int .i64 8]) (by simp [results, Try.f14, go_sem, c0, c1]) rfl ⟨none, 0, 0, rfl, Fr.nil _ _ _, hB2⟩
  · obtain rfl := hRR.out
    have hz : q2 = true → (o != x) = true := by
      intro h
      subst h
      rcases hbad with h | h
      · simp at h
      · simpa [bne] using h
    clear HTL hbad hRR
    cases q2
    · clear hz
      go_enter Try.func14, Try.ntmps14
      go_wp2_with (first
        | ((with_reducible refine (hM.out).mono ?_); rintro e w1 ⟨rfl, hb1⟩; obtain ⟨c0, c1, c2, c3⟩ := two_facts (H2.out.belowS hb1))
        | ((with_reducible refine (hT.out _).mono ?_); rintro e w2 ⟨rfl, rfl⟩))
      have hB2 := (below_al (below_al hb1)).trans ((chg_both w1 (w.heap.size + 1) (.int .i64 0) (.slice none 0 0)).below (below_al (below_al hb1)).size (fun b e => by omega))
      exact bodyPost_ret (v := .tuple #[.agg #[.int .i64 0, .slice none 0 0], .int .i64 0, .int .i64 2]) (by simp [results, Try.f14, go_sem, c0, c1]) rfl ⟨none, 0, 0, rfl, Fr.nil _ _ _, hB2⟩
    · have hz' := hz rfl
      clear hz
      go_enter Try.func14, Try.ntmps14
      go_wp2_with (first
        | ((with_reducible refine (hM.out).mono ?_); rintro e w1 ⟨rfl, hb1⟩; obtain ⟨a0, a1, a2, a3⟩ := two_facts (H1.out.belowS hb1); obtain ⟨c0, c1, c2, c3⟩ := two_facts (H2.out.belowS hb1))
        | ((with_reducible refine (hT.out _).mono ?_); rintro e w2 ⟨rfl, rfl⟩))
      have hB2 := (below_al (below_al hb1)).trans ((chg_both w1 (w.heap.size + 1) (.int .i64 0) (.slice none 0 0)).below (below_al (below_al hb1)).size (fun b e => by omega))
      exact bodyPost_ret (v := .tuple #[.agg #[.int .i64 0, .slice none 0 0], .int .i64 0, .int .i64 2]) (by simp [results, Try.f14, go_sem, c0, c1]) rfl ⟨none, 0, 0, rfl, Fr.nil _ _ _, hB2⟩

set_option maxHeartbeats 2000000 in
theorem refFree_good (o : Int) (A : Option Addr) (n c : Nat) (ws : List Int) (w : World) (hn : n ≤ 900) (hR : Rd w 0 1 A n (ws.map iv)) (hm : mayL o ws = true) (ht : taskB o = true) :
    Calls Try.prog 14 #[.agg #[.int .i64 o, .slice A n c], .int .i64 o] w (GivesF w (ws.headD 0, ws.tail, ws.headD 0, 0)) := by
  have hb2 := (below_alloc1 w (.cells #[.int .i64 o, .slice A n c] 24)).alloc (by simp) (.cells #[.int .i64 0, .slice none 0 0] 24)
  have hR2 := hR.below hb2
  have hM := refMay_any o A n c ws _ (by omega) hR2
  rw [hm] at hM
  have HM := hid hM
  have hT := refTask_any o
  rw [ht] at hT
  have HT := hid hT
  have ho : o ≠ 0 := by have := task_pos ht; omega
  have hFd := hid (fun W (h : Rd W 0 1 A n (ws.map iv)) => refFreed_any o A n c ws W hn h ho)
  have HR := hid hR2
  have H1 := hid ((Blk.new w 24 #[.int .i64 o, .slice A n c]).alloc (.cells #[.int .i64 0, .slice none 0 0] 24))
  have B2 := Blk.new (w.alloc (.cells #[.int .i64 o, .slice A n c] 24)) 24 #[.int .i64 0, .slice none 0 0]
  simp only [World.size_alloc] at B2
  have H2 := hid B2
  clear hR hR2 hb2 B2 hM hT hm ht ho
  generalize ws.headD 0 = hd at *
  generalize ws.tail = tl at *
  go_enter Try.func14, Try.ntmps14
  go_wp2_with (first
    | ((with_reducible refine (HM.out).mono ?_); rintro e w1 ⟨rfl, hb1⟩; obtain ⟨a0, a1, a2, a3⟩ := two_facts (H1.out.belowS hb1))
    | ((with_reducible refine (HT.out _).mono ?_); rintro e w2 ⟨rfl, rfl⟩)
    | ((with_reducible refine (hFd.out _ (HR.out.below hb1)).mono ?_); rintro e w3 ⟨D, k, rfl, hO3, hb3⟩))
  have hb03 := below_chain (below_al (below_al hb1)) hb3
  have B3 := ((H2.out.belowS hb1).belowS hb3).alloc (.cells #[.int .i64 hd, .slice D tl.length k] 24)
  have T3 := Blk.new w3 24 #[.int .i64 hd, .slice D tl.length k]
  have hO4 := hO3.alloc (.cells #[.int .i64 hd, .slice D tl.length k] 24)
  have hb04 := hb03.alloc hb03.size (.cells #[.int .i64 hd, .slice D tl.length k] 24)
  have hs1 := ((H2.out.belowS hb1).belowS hb3).lt
  have hs2 := (H2.out.belowS hb1).lt
  clear a0 a1 a2 a3 hb1 hb3 hb03 HR H1 H2 HM HT hO3
  generalize w3.alloc (.cells #[.int .i64 hd, .slice D tl.length k] 24) = w4 at *
  generalize w3.heap.size = g at *
  obtain ⟨c0, c1, c2, c3⟩ := two_facts B3
  obtain ⟨t0, t1, t2, t3⟩ := two_facts T3
  go_region
  have hCf := chg_both w4 (w.heap.size + 1) (.int .i64 hd) (.slice D tl.length k)
  have hOf := ((hO4.keep fun b hl hr => hCf.block b hl (fun e => by have := (hO4.row_lt b hr).1; omega)).low (lo' := w.heap.size) (by omega)).drew
  have hbf0 := hb04.trans (hCf.below hb04.size (fun b e => by omega))
  have hbf : Below w.heap.size w (((w4.setCell ⟨w.heap.size + 1, 0, none⟩ (.int .i64 hd)).setCell ⟨w.heap.size + 1, 1, none⟩ (.slice D tl.length k)).drew) := ⟨hbf0.os, hbf0.tape, hbf0.output, hbf0.size, hbf0.block⟩
  have Bf := (B3.both (c := .int .i64 hd) (d := .slice D tl.length k)).drew
  generalize (((w4.setCell ⟨w.heap.size + 1, 0, none⟩ (.int .i64 hd)).setCell ⟨w.heap.size + 1, 1, none⟩ (.slice D tl.length k)).drew) = wf at *
  obtain ⟨g0, g1, _, _⟩ := two_facts Bf
  go_wp2
  exact bodyPost_ret (v := .tuple #[.agg #[.int .i64 hd, .slice D tl.length k], .int .i64 hd, .int .i64 0]) (by simp [results, Try.f14, go_sem, g0, g1]) rfl ⟨D, tl.length, k, rfl, hOf.fr, hbf⟩
theorem refFree_any (o x : Int) (A : Option Addr) (n c : Nat) (ws : List Int) (w : World) (hn : n ≤ 900) (hR : Rd w 0 1 A n (ws.map iv)) :
    Calls Try.prog 14 #[.agg #[.int .i64 o, .slice A n c], .int .i64 x] w (GivesF w (freeL o ws x)) := by
  by_cases h : askedE o ws x ≠ 0 ∨ o ≠ x
  · exact refFree_bad o x A n c ws w hn hR h
  · have he : askedE o ws x = 0 := by omega
    obtain rfl : o = x := by omega
    have hm : mayL o ws = true := by
      unfold askedE at he
      cases hm : mayL o ws with
      | true => rfl
      | false => simp [hm] at he
    have ht : taskB o = true := by
      unfold askedE at he
      cases ht : taskB o with
      | true => rfl
      | false => simp [hm, ht] at he
    have hT : freeL o ws o = (ws.headD 0, ws.tail, ws.headD 0, 0) := by
      unfold freeL
      rw [if_neg (by simp [he]), if_neg (by simp)]
    rw [hT]
    exact refFree_good o A n c ws w hn hR hm ht

set_option maxHeartbeats 2000000 in
theorem refSame_any (o p : Int) (A B : Option Addr) (n m c d : Nat) (xs ys : List Int) (w : World) (ha : Rd w 0 1 A n (xs.map iv)) (hb : Rd w 0 1 B m (ys.map iv)) (hn : n ≤ 1000) (hm : m ≤ 1000) :
    Calls Try.prog 16 #[.agg #[.int .i64 o, .slice A n c], .agg #[.int .i64 p, .slice B m d]] w fun e w' => e = .returned (.bool (decide (o = p ∧ xs = ys))) ∧ Below w.heap.size w w' := by
  have hxl : xs.length = n := by simpa using ha.1
  have hyl : ys.length = m := by simpa using hb.1
  have hbb := (below_alloc1 w (.cells #[.int .i64 o, .slice A n c] 24)).alloc (by simp) (.cells #[.int .i64 p, .slice B m d] 24)
  have B1 := (Blk.new w 24 #[.int .i64 o, .slice A n c]).alloc (.cells #[.int .i64 p, .slice B m d] 24)
  have B2 := Blk.new (w.alloc (.cells #[.int .i64 o, .slice A n c] 24)) 24 #[.int .i64 p, .slice B m d]
  have ha2 := ha.below hbb
  have hb2 := hb.below hbb
  have HBB := hid hbb
  simp only [World.size_alloc] at B2
  by_cases hop : o = p
  · subst hop
    by_cases hnm : n = m
    · subst hnm
      have hne : ((n : Int) != (n : Int)) = false := by simp
      have HX := hid hxl
      have HY := hid hyl
      have HA := hid ha2
      have HBr := hid hb2
      have H1 := hid B1
      have H2 := hid B2
      clear hxl hyl ha hb ha2 hb2 B1 B2 hbb
      go_enter Try.func16, Try.ntmps16
      go_wp2_with fail
      generalize (w.alloc (.cells #[.int .i64 o, .slice A n c] 24)).alloc (.cells #[.int .i64 o, .slice B n d] 24) = w2 at *
      go_loopw [5] (fun i wr => ∃ k : Nat, k ≤ n ∧ i = .int .i64 k ∧ (∀ j, j < k → xs[j]? = ys[j]?) ∧ Below w2.heap.size w2 wr) (fun i _ => n - (intOf i).toNat)
      case atStart => exact ⟨0, Nat.zero_le _, rfl, fun j hj => absurd hj (Nat.not_lt_zero _), Below.refl _ _⟩
      case round =>
        obtain ⟨k, hk, rfl, hgood, hbr⟩ := hrel
        have HG := hid hgood
        clear hgood
        obtain ⟨a0, a1, a2, a3⟩ := two_facts (H1.out.belowS hbr)
        obtain ⟨b0, b1, b2, b3⟩ := two_facts (H2.out.belowS hbr)
        have HBf := hid (HBB.out.trans (hbr.mono HBB.out.size))
        by_cases hlt : k < n
        · obtain ⟨p1, o1, rfl, _, c1⟩ := (HA.out.below hbr).int hlt
          obtain ⟨p2, o2, rfl, _, c2⟩ := (HBr.out.below hbr).int hlt
          have hti : (k : Int) < (n : Int) := by omega
          have htz : (0 : Int) ≤ (k : Int) := by omega
          have hnz : (n : Int) ≤ 1000 := by omega
          by_cases hxy : xs[k]?.getD 0 = ys[k]?.getD 0
          · have hq : (xs[k]?.getD 0 != ys[k]?.getD 0) = false := by simp [bne, hxy]
            have hat : ∀ j, j < k + 1 → xs[j]? = ys[j]? := fun j hj => by
              rcases Nat.lt_succ_iff_lt_or_eq.1 hj with h | rfl
              · exact HG.out j h
              · have h1 : j < xs.length := by have := HX.out; omega
                have h2 : j < ys.length := by have := HY.out; omega
                rw [List.getElem?_eq_getElem h1, List.getElem?_eq_getElem h2] at hxy ⊢
                simpa using hxy
            have HAT := hid hat
            clear hxy hat
            generalize xs[k]?.getD 0 = x at *
            generalize ys[k]?.getD 0 = y at *
            go_wp2
            go_quiet (fail)
            go_wp2
            exact ⟨⟨k + 1, by omega, by go_num, HAT.out, below_drew hbr _⟩, by simp [intOf]; omega⟩
          · have hq : (xs[k]?.getD 0 != ys[k]?.getD 0) = true := by simpa [bne] using hxy
            have hno : xs ≠ ys := fun e => hxy (by rw [e])
            have HNO := hid hno
            clear hxy hno
            generalize xs[k]?.getD 0 = x at *
            generalize ys[k]?.getD 0 = y at *
            go_wp2
            go_quiet (fail)
            go_wp2
            go_ret
            exact ⟨ret_b (by simpa using HNO.out), below_drew HBf.out _⟩
        · obtain rfl : k = n := by omega
          have hti : ¬ (k : Int) < (k : Int) := by omega
          have hyes : xs = ys := List.ext_getElem? fun j => by
            rcases Nat.lt_or_ge j k with h | h
            · exact HG.out j h
            · rw [List.getElem?_eq_none (by have := HX.out; omega), List.getElem?_eq_none (by have := HY.out; omega)]
          have HYES := hid hyes
          clear hyes
          go_wp2
          go_ret
          exact ⟨ret_b (by simpa using HYES.out), HBf.out⟩
    · have hne : ((n : Int) != (m : Int)) = true := by rw [bne_iff_ne]; omega
      have HNO : Hid (decide (o = o ∧ xs = ys) = false) := hid (decide_eq_false fun h => hnm (by rw [← hxl, ← hyl, h.2]))
      clear ha2 hb2 ha hb hxl hyl B1 B2 hbb
      go_enter Try.func16, Try.ntmps16
      go_wp2
      go_ret
      exact ⟨ret_b (by simpa using HNO.out), HBB.out⟩
  · have hq : (o != p) = true := by simpa [bne] using hop
    have HNO : Hid (decide (o = p ∧ xs = ys) = false) := hid (decide_eq_false fun h => hop h.1)
    clear ha2 hb2 ha hb hxl hyl B1 B2 hbb hop
    go_enter Try.func16, Try.ntmps16
    go_wp2
    go_ret
    exact ⟨ret_b HNO.out, HBB.out⟩

set_option maxHeartbeats 1000000 in
theorem spoil_any (o : Int) (A : Option Addr) (n c lo : Nat) (xs : List Int) (w : World) (hF : Fr w lo A n xs) (hn : n ≤ 1000) :
    Calls Try.prog 20 #[.agg #[.int .i64 o, .slice A n c]] w fun e w' => (∃ v, e = .returned v) ∧ Chg w w' (fun b => 0 < n ∧ ∃ o, A = some ⟨b, o, none⟩) := by
  have B1 := Blk.new w 24 #[.int .i64 o, .slice A n c]
  have hb1 := below_alloc1 w (.cells #[.int .i64 o, .slice A n c] 24)
  have hC1 := (Chg.refl w (fun b => 0 < n ∧ ∃ o, A = some ⟨b, o, none⟩)).alloc (.cells #[.int .i64 o, .slice A n c] 24)
  have hRow : 0 < n → ∃ b q t cs, A = some ⟨b, q, none⟩ ∧ b < w.heap.size ∧ q + n ≤ cs.size ∧ Blk (w.alloc (.cells #[.int .i64 o, .slice A n c] 24)) b t cs := fun hp => by
    obtain ⟨b, q, e, _, hc⟩ := hF.1.2 (by omega)
    obtain ⟨t, cs, hB⟩ := hF.2 hp b q e
    refine ⟨b, q, t, cs, e, hB.lt, ?_, hB.alloc _⟩
    have h1 := hc (n - 1) (by omega)
    rw [hB.cell] at h1
    have hl := hF.len
    rw [List.getElem?_eq_getElem (by simp; omega)] at h1
    have := (Array.getElem?_eq_some_iff.1 h1).1
    omega
  have HRow := hid hRow
  have H1 := hid B1
  have HC1 := hid hC1
  clear hRow B1 hC1 hF hb1
  go_enter Try.func20, Try.ntmps20
  go_wp2_with fail
  have hs2 : w.heap.size + 1 = (w.alloc (.cells #[.int .i64 o, .slice A n c] 24)).heap.size := by simp
  generalize w.alloc (.cells #[.int .i64 o, .slice A n c] 24) = w2 at *
  go_loopw [2] (fun i wr => ∃ k : Nat, k ≤ n ∧ i = .int .i64 k ∧ Chg w wr (fun b => 0 < n ∧ ∃ o, A = some ⟨b, o, none⟩) ∧ Blk wr w.heap.size 24 #[.int .i64 o, .slice A n c] ∧ (0 < n → ∃ b q t cs, A = some ⟨b, q, none⟩ ∧ b < w.heap.size ∧ q + n ≤ cs.size ∧ Blk wr b t cs)) (fun i _ => n - (intOf i).toNat)
  case atStart => exact ⟨0, Nat.zero_le _, rfl, HC1.out, H1.out, HRow.out⟩
  case round =>
    obtain ⟨k, hk, rfl, hC, hB, hrow⟩ := hrel
    have HW := hid hrow
    have HC := hid hC
    have HB := hid hB
    obtain ⟨a0, a1, a2, a3⟩ := two_facts hB
    clear hrow hC hB
    by_cases hlt : k < n
    · obtain ⟨b, q, t, cs, rfl, hbl, hqs, hBb⟩ := HW.out (by omega)
      have hti : (k : Int) < (n : Int) := by omega
      have htz : (0 : Int) ≤ (k : Int) := by omega
      have hnz : (n : Int) ≤ 1000 := by omega
      have hcell : wr.cell? ⟨b, q + k, none⟩ = some (cs[q + k]'(by omega)) := (hBb.cell _).trans (Array.getElem?_eq_getElem (by omega))
      have hfz := hBb.frozen (q + k)
      have HBb := hid hBb
      clear hBb
      generalize cs[q + k]'(by omega) = u at *
      go_wp2
      have hbne : w.heap.size ≠ b := by omega
      refine ⟨⟨k + 1, by omega, by go_num, HC.out.setCell (g := b) _ (.inl ⟨by omega, q, rfl⟩), HB.out.far hbne _, fun _ => ⟨b, q, t, _, rfl, hbl, by simpa using hqs, HBb.out.set_ _ _⟩⟩, by simp [intOf]; omega⟩
    · obtain rfl : k = n := by omega
      have hti : ¬ (k : Int) < (k : Int) := by omega
      go_wp2
      go_end0
      exact ⟨⟨_, rfl⟩, HC.out⟩
end Go.Proofs.Ytopicgodflhjcaa
