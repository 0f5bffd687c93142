/-
  Contracts of the reference's functions on locks. No condition beyond those each theorem names.
-/
import Derived.Test.YtopicgodflhjcaaLockF
import Derived.Test.YtopicgodflhjcaaReg
import Derived.Deep.DeepCutAuto
import Derived.StillTailTactics
namespace Go.Proofs.Ytopicgodflhjcaa
open Go.RowKit Go.Shelf

theorem refTask_any (n : Int) (w : World) : Calls Try.prog 29 #[.int .i64 n] w fun e w' => e = .returned (.bool (taskB n)) ∧ w = w' := by
  unfold taskB
  by_cases h1 : 1 ≤ n
  · rw [show decide (1 ≤ n) = true by simpa using h1]
    by_cases h2 : n ≤ 16
    · rw [show decide (n ≤ 16) = true by simpa using h2]
      go_enter Try.func29, Try.ntmps29
      go_wp2
      go_ret
      exact ⟨rfl, rfl⟩
    · rw [show decide (n ≤ 16) = false by simpa using h2]
      have h3 : 16 < n := by omega
      go_enter Try.func29, Try.ntmps29
      go_wp2
      go_ret
      exact ⟨rfl, rfl⟩
  · rw [show decide (1 ≤ n) = false by simpa using h1]
    have h3 : n < 1 := by omega
    go_enter Try.func29, Try.ntmps29
    go_wp2
    go_ret
    exact ⟨rfl, rfl⟩

set_option maxHeartbeats 1000000 in
theorem refAll_any (o : Int) (A : Option Addr) (n c : Nat) (ws : List Int) (w : World) (hn : n ≤ 1000) (hR : Rd w 0 1 A n (ws.map iv)) :
    Calls Try.prog 35 #[.agg #[.int .i64 o, .slice A n c]] w (GivesI w (allL o ws)) := by
  obtain ⟨i0, hi0, hz0, hz1, hz2⟩ := info_parts int_info
  unfold allL
  by_cases ho : o = 0
  · subst ho
    rw [if_pos rfl]
    go_enter Try.func35, Try.ntmps35
    go_wp2
    go_ret
    exact gives_i (xs := []) (Own.nil _ _ _ _ _) (below_alloc1 _ _)
  · rw [if_neg ho]
    have ho' : (o == 0) = false := by simpa using ho
    have hb1 := below_alloc1 w (.cells #[.int .i64 o, .slice A n c] 24)
    have hb2 := hb1.alloc hb1.size (.cells [iv o].toArray 3)
    have hRl := hid (hR.below hb2)
    have hO1 := Own.made (w.alloc (.cells #[.int .i64 o, .slice A n c] 24)) [iv o].toArray 3 w.heap.size 1 1 (by simp) (by decide) rfl
    simp only [World.size_alloc] at hO1
    have hOl := hid hO1
    clear hO1
    have hBl := hid hb2
    clear hR ho hb1 hb2
    go_enter Try.func35, Try.ntmps35
    go_wp2_with (at_builtin; refine wpList_app _ rfl _ _ _ rfl w.heap.size 3 i0 _ 1 8 Try.underlying22 hi0 hz0 hz1 hz2 rfl (by omega) _ 1 1 [iv o] rfl hOl.out A n c 0 (ws.map iv) rfl hRl.out (iv_one ws) (by simp only [maxLen]; omega) (by omega) (by simp; omega) ?_; intro D' c' w1 hown hg hat)
    go_ret
    have hBf := hBl.out.grown hg (by simp; omega) (fun g e => by
      have := (hOl.out.row_lt g e).1
      omega)
    exact gives_i (xs := o :: ws) hown hBf

/-- 's[1:]' of ints, as the walk writes it. -/
theorem Rd.tail1 {w : World} {lo b o n c : Nat} {x : Int} {xs : List Int} (h : Rd w lo 1 (some ⟨b, o, none⟩) n ((x :: xs).map iv)) (hc : n ≤ c) : Rd w lo 1 (if c = 1 then some ⟨b, o, none⟩ else some ⟨b, o + 1, none⟩) (n - 1) (xs.map iv) := by
  have hl := h.1
  simp only [List.map_cons, List.length_cons] at hl
  have := h.drop (k := 1) (cap := c) (by omega) hc
  simpa [add_lit] using this
set_option maxHeartbeats 1000000 in
theorem refOf_any (A : Option Addr) (n c : Nat) (xs : List Int) (w : World) (hn : n ≤ 1000) (hnc : n ≤ c) (hR : Rd w 0 1 A n (xs.map iv)) :
    Calls Try.prog 36 #[.slice A n c] w (GivesL w (xs.headD 0) xs.tail) := by
  obtain ⟨i0, hi0, hz0, hz1, hz2⟩ := info_parts int_info
  have hl : xs.length = n := by simpa using hR.1
  cases xs with
  | nil =>
    obtain rfl : 0 = n := hl
    go_enter Try.func36, Try.ntmps36
    go_wp2
    exact bodyPost_ret (v := .agg #[.int .i64 0, .slice none 0 0]) (by simp [results, Try.f36, go_sem]) rfl ⟨none, 0, rfl, Own.nil _ _ _ _ _, below_alloc1 _ _⟩
  | cons x xs =>
    simp only [List.length_cons] at hl
    obtain ⟨b, o, rfl, _, hx⟩ := hR.int (k := 0) (by omega)
    simp only [List.getElem?_cons_zero, Option.getD_some, Nat.add_zero] at hx
    have hnz : ((n : Int) == 0) = false := by simp; omega
    have h0n : (0 : Int) < (n : Int) := by omega
    have h1n : (1 : Int) ≤ (n : Int) := by omega
    have h1c : (n : Int) ≤ (c : Int) := by omega
    have hx1 : (w.alloc (.cells #[.int .i64 0, .slice none 0 0] 24)).cell? ⟨b, o, none⟩ = some (.int .i64 x) := (World.cell?_of_block (a := ⟨b, o, none⟩) (Below.heap_alloc w _ b (cell_lt hx))).trans hx
    go_enter Try.func36, Try.ntmps36
    go_wp2_with fail
    have hb1 := below_alloc1 w (.cells #[.int .i64 0, .slice none 0 0] 24)
    have hb2 := hb1.alloc hb1.size (.cells #[.int .i64 x, .slice none 0 0] 24)
    have B2 := (Blk.new w 24 #[.int .i64 0, .slice none 0 0]).alloc (.cells #[.int .i64 x, .slice none 0 0] 24)
    have B3 := Blk.new (w.alloc (.cells #[.int .i64 0, .slice none 0 0] 24)) 24 #[.int .i64 x, .slice none 0 0]
    have hR2 := hR.below hb2
    have hs2 : w.heap.size + 2 = ((w.alloc (.cells #[.int .i64 0, .slice none 0 0] 24)).alloc (.cells #[.int .i64 x, .slice none 0 0] 24)).heap.size := by simp
    simp only [World.size_alloc] at B3
    generalize (w.alloc (.cells #[.int .i64 0, .slice none 0 0] 24)).alloc (.cells #[.int .i64 x, .slice none 0 0] 24) = w2 at *
    obtain ⟨a0, a1, a2, a3⟩ := two_facts B3
    obtain ⟨c0, c1, c2, c3⟩ := two_facts B2
    have hRD := hR2.tail1 hnc
    go_still_tail 4, (by kernel_rfl)
    change wpList _ _ _ _ _ w2.drew
    generalize hD : (if c = 1 then some (⟨b, o, none⟩ : Addr) else some (⟨b, o + 1, none⟩ : Addr)) = D at *
    clear hD
    have hb2d : Below w.heap.size w w2.drew := ⟨hb2.os, hb2.tape, hb2.output, hb2.size, hb2.block⟩
    have B3d := B3.drew
    have B2d := B2.drew
    have hRDd := hRD.drew
    have hsd : w.heap.size + 2 = w2.drew.heap.size := hs2
    generalize w2.drew = w3 at *
    clear hb2 B3 B2 hRD hs2 hR2 hb1 hx1 hx hR a0 a1 a2 a3 c0 c1 c2 c3
    go_wp2_with (at_builtin; refine wpList_app _ rfl _ _ _ rfl w3.heap.size 3 i0 _ 1 8 Try.underlying22 hi0 hz0 hz1 hz2 rfl (by omega) none 0 0 [] rfl (Own.nil _ _ _ _ _) D (n - 1) (c - 1) 0 (xs.map iv) rfl hRDd (iv_one xs) (by simp only [maxLen]; omega) (by omega) (Nat.le_refl _) ?_; intro D' c' w4 hown hg hat; have hbg : Below w3.heap.size w3 w4 := ((Below.refl _ _).grown hg (Nat.le_refl _) (by simp [rowOf])); obtain ⟨a0, a1, a2, a3⟩ := two_facts (B3d.belowS hbg); obtain ⟨c0, c1, c2, c3⟩ := two_facts (B2d.belowS hbg))
    simp only [Nat.zero_add, List.nil_append] at hown
    have hl1 : n - 1 = xs.length := by omega
    rw [hl1] at hown ⊢
    have hCf := (((Chg.refl w4 (fun b => b = w.heap.size + 1 ∨ b = w.heap.size)).setCell (i := 1) (.slice D' xs.length c') (.inl (.inl rfl))).setCell (i := 0) (.int .i64 x) (.inl (.inr rfl))).setCell (i := 1) (.slice D' xs.length c') (.inl (.inr rfl))
    have hb4 := hb2d.trans (hbg.mono hb2d.size)
    have hbf := hb4.trans (hCf.below hb4.size (fun b e => by omega))
    have hOf := (hown.keep fun b hl hr => hCf.block b hl (fun e => by have := (hown.row_lt b hr).1; omega)).low (lo' := w.heap.size) (by omega)
    have bTf := (((B2d.belowS hbg).far (b := w.heap.size + 1) (i := 1) (by omega) (.slice D' xs.length c')).set_ 0 (.int .i64 x)).set_ 1 (.slice D' xs.length c')
    generalize ((w4.setCell ⟨w.heap.size + 1, 1, none⟩ (.slice D' xs.length c')).setCell ⟨w.heap.size, 0, none⟩ (.int .i64 x)).setCell ⟨w.heap.size, 1, none⟩ (.slice D' xs.length c') = wf at *
    have g0 := bTf.cellv (i := 0) (v := .int .i64 x) rfl
    have g1 := bTf.cellv (i := 1) (v := .slice D' xs.length c') rfl
    exact bodyPost_ret (v := .agg #[.int .i64 x, .slice D' xs.length c']) (by simp [results, Try.f36, go_sem, g0, g1]) rfl ⟨D', c', rfl, hOf, hbf⟩

set_option maxHeartbeats 1000000 in
theorem refTwin_any (o : Int) (A : Option Addr) (n c : Nat) (ws : List Int) (w : World) (hn : n ≤ 1000) (hR : Rd w 0 1 A n (ws.map iv)) :
    Calls Try.prog 12 #[.agg #[.int .i64 o, .slice A n c]] w (GivesL w o ws) := by
  obtain ⟨i0, hi0, hz0, hz1, hz2⟩ := info_parts int_info
  have hl : ws.length = n := by simpa using hR.1
  subst hl
  have hb3 := (((below_alloc1 w (.cells #[.int .i64 o, .slice A ws.length c] 24)).alloc (by simp) (.cells #[.int .i64 0, .slice none 0 0] 24))).alloc (by simp; omega) (.cells #[.int .i64 o, .slice none 0 0] 24)
  have B1 := ((Blk.new w 24 #[.int .i64 o, .slice A ws.length c]).alloc (.cells #[.int .i64 0, .slice none 0 0] 24)).alloc (.cells #[.int .i64 o, .slice none 0 0] 24)
  have B2 := (Blk.new (w.alloc (.cells #[.int .i64 o, .slice A ws.length c] 24)) 24 #[.int .i64 0, .slice none 0 0]).alloc (.cells #[.int .i64 o, .slice none 0 0] 24)
  have B3 := Blk.new ((w.alloc (.cells #[.int .i64 o, .slice A ws.length c] 24)).alloc (.cells #[.int .i64 0, .slice none 0 0] 24)) 24 #[.int .i64 o, .slice none 0 0]
  have hs : w.heap.size + 3 = (((w.alloc (.cells #[.int .i64 o, .slice A ws.length c] 24)).alloc (.cells #[.int .i64 0, .slice none 0 0] 24)).alloc (.cells #[.int .i64 o, .slice none 0 0] 24)).heap.size := by simp
  simp only [World.size_alloc] at B2 B3
  have H1 := hid B1
  have H2 := hid B2
  have H3 := hid B3
  have HB := hid hb3
  have HR := hid (hR.below hb3)
  have HS := hid hs
  clear B1 B2 B3 hb3 hs hR
  go_enter Try.func12, Try.ntmps12
  go_wp2_with (at_builtin; refine wpList_app _ rfl _ _ _ rfl _ 3 i0 _ 1 8 Try.underlying22 hi0 hz0 hz1 hz2 rfl (by omega) none 0 0 [] rfl (Own.nil _ _ _ _ _) A ws.length c 0 (ws.map iv) rfl HR.out (iv_one ws) (by simp only [maxLen]; omega) (by omega) (Nat.le_refl _) ?_; intro D' c' w4 hown hg hat; have hbg := ((Below.refl _ _).grown hg (Nat.le_refl _) (by simp [rowOf])); obtain ⟨a0, a1, a2, a3⟩ := two_facts (H3.out.belowS hbg); obtain ⟨c0, c1, c2, c3⟩ := two_facts (H2.out.belowS hbg))
  simp only [Nat.zero_add, List.nil_append] at hown
  rw [← HS.out] at hown hbg
  have hCf := (((Chg.refl w4 (fun b => b = w.heap.size + 1 + 1 ∨ b = w.heap.size + 1)).setCell (i := 1) (.slice D' ws.length c') (.inl (.inl rfl))).setCell (i := 0) (.int .i64 o) (.inl (.inr rfl))).setCell (i := 1) (.slice D' ws.length c') (.inl (.inr rfl))
  have hb4 := HB.out.trans (hbg.mono (by omega))
  have hbf := hb4.trans (hCf.below hb4.size (fun b e => by omega))
  have hOf := (hown.keep fun b hl hr => hCf.block b hl (fun e => by have := (hown.row_lt b hr).1; omega)).low (lo' := w.heap.size) (by omega)
  have bTf := (((H2.out.below hbg (by omega)).far (b := w.heap.size + 1 + 1) (i := 1) (by omega) (.slice D' ws.length c')).set_ 0 (.int .i64 o)).set_ 1 (.slice D' ws.length c')
  generalize ((w4.setCell ⟨w.heap.size + 1 + 1, 1, none⟩ (.slice D' ws.length c')).setCell ⟨w.heap.size + 1, 0, none⟩ (.int .i64 o)).setCell ⟨w.heap.size + 1, 1, none⟩ (.slice D' ws.length c') = wf at *
  have g0 := bTf.cellv (i := 0) (v := .int .i64 o) rfl
  have g1 := bTf.cellv (i := 1) (v := .slice D' ws.length c') rfl
  exact bodyPost_ret (v := .agg #[.int .i64 o, .slice D' ws.length c']) (by simp [results, Try.f12, go_sem, g0, g1]) rfl ⟨D', c', rfl, hOf, hbf⟩

set_option maxHeartbeats 1000000 in
theorem refFind_any (o x : Int) (A : Option Addr) (n c : Nat) (ws : List Int) (w : World) (hn : n ≤ 1000) (hR : Rd w 0 1 A n (ws.map iv)) :
    Calls Try.prog 30 #[.agg #[.int .i64 o, .slice A n c], .int .i64 x] w fun e w' => e = .returned (.int .i64 (fnd (allL o ws) x)) ∧ Below w.heap.size w w' := by
  have hl : ws.length = n := by simpa using hR.1
  have hAll := hid (refAll_any o A n c ws _ hn (hR.below (below_alloc1 w (.cells #[.int .i64 o, .slice A n c] 24))))
  have hle : (allL o ws).length ≤ 1001 := by rw [allL_len]; unfold howMany; split <;> omega
  have hle' : ((allL o ws).length : Int) ≤ 1001 := by omega
  clear hR hl
  generalize allL o ws = L at *
  go_enter Try.func30, Try.ntmps30
  go_wp2_with ((with_reducible refine (hAll.out).mono ?_); rintro e w1 ⟨D, d, rfl, hO, hb1⟩)
  have hr := hid hO.rd
  have hB1 := below_al hb1
  clear hO hb1
  go_loopw [6] (fun i wr => ∃ k : Nat, k ≤ L.length ∧ i = .int .i64 k ∧ (∀ j, j < k → L[j]? ≠ some x) ∧ wr = w1) (fun i _ => L.length - (intOf i).toNat)
  case atStart => exact ⟨0, Nat.zero_le _, rfl, fun j hj => absurd hj (Nat.not_lt_zero _), rfl⟩
  case round =>
    obtain ⟨k, hk, rfl, hno, rfl⟩ := hrel
    have HN := hid hno
    clear hno
    have htz : (0 : Int) ≤ (k : Int) := by omega
    by_cases hlt : k < L.length
    · obtain ⟨b, off, rfl, _, hc⟩ := hr.out.int hlt
      have hti : (k : Int) < (L.length : Int) := by omega
      have hLk : L[k]? = some (L[k]?.getD 0) := by rw [List.getElem?_eq_getElem hlt]; rfl
      have HLK := hid hLk
      clear hLk
      generalize L[k]?.getD 0 = y at *
      by_cases hy : y = x
      · have hq : (y == x) = true := by simpa using hy
        have hres := hid (fnd_at L x k (by rw [HLK.out, hy]) HN.out)
        clear hy
        go_wp2
        go_ret
        exact ⟨by rw [hres.out]; rfl, hB1⟩
      · have hq : (y == x) = false := by simpa using hy
        have HY := hid hy
        clear hy
        go_wp2
        have hnx : ∀ j, j < k + 1 → L[j]? ≠ some x := fun j hj => by
          rcases Nat.lt_succ_iff_lt_or_eq.1 hj with h | rfl
          · exact HN.out j h
          · rw [HLK.out]; simpa using HY.out
        exact ⟨⟨k + 1, by omega, by go_num, hnx, trivial⟩, by simp [intOf]; omega⟩
    · obtain rfl : k = L.length := by omega
      have hti : ¬ (L.length : Int) < (L.length : Int) := by omega
      have hres := hid (fnd_none L x HN.out)
      go_wp2
      go_ret
      exact ⟨by rw [hres.out]; rfl, hB1⟩

set_option maxHeartbeats 1000000 in
theorem refMay_bad (A : Option Addr) (n c : Nat) (ws : List Int) (w : World) (hn : n ≤ 1000) (hn0 : 0 < n) (hR : Rd w 0 1 A n (ws.map iv)) :
    Calls Try.prog 28 #[.agg #[.int .i64 0, .slice A n c]] w fun e w' => e = .returned (.bool false) ∧ Below w.heap.size w w' := by
  have hAll := hid (refAll_any 0 A n c ws _ hn (hR.below (below_alloc1 w (.cells #[.int .i64 0, .slice A n c] 24))))
  have B1 := hid (Blk.new w 24 #[.int .i64 0, .slice A n c])
  have hni : (0 : Int) < (n : Int) := by omega
  go_enter Try.func28, Try.ntmps28
  go_wp2_with ((with_reducible refine (hAll.out).mono ?_); rintro e w1 ⟨D, d, rfl, hO, hb1⟩; obtain ⟨a0, a1, a2, a3⟩ := two_facts (B1.out.belowS hb1); have hL0 : (allL 0 ws).length = 0 := rfl)
  go_ret
  exact ⟨rfl, below_al hb1⟩

set_option maxRecDepth 100000 in
set_option maxHeartbeats 2000000 in
theorem refMay_loop (o : Int) (A : Option Addr) (n c : Nat) (ws : List Int) (w : World) (hn : n ≤ 1000) (hR : Rd w 0 1 A n (ws.map iv)) (hcond : (!(o == 0) || ws.isEmpty) = true) (g1 g2 : Bool) (hg1 : (((allL o ws).length : Int) == 0) = g1) (hg2 : decide (0 < n) = g2) (hgg : (g1 && g2) = false) :
    Calls Try.prog 28 #[.agg #[.int .i64 o, .slice A n c]] w fun e w' => e = .returned (.bool (mayL o ws)) ∧ Below w.heap.size w w' := by
  have hl : ws.length = n := by simpa using hR.1
  have hAll := hid (refAll_any o A n c ws _ hn (hR.below (below_alloc1 w (.cells #[.int .i64 o, .slice A n c] 24))))
  have hle : (allL o ws).length ≤ 1001 := by rw [allL_len]; unfold howMany; split <;> omega
  have hle' : ((allL o ws).length : Int) ≤ 1001 := by omega
  have B1 := hid (Blk.new w 24 #[.int .i64 o, .slice A n c])
  have hF := hid (fun (x : Int) (W : World) (hB : Below w.heap.size w W) => refFind_any o x A n c ws W hn (hR.below hB))
  have HM : Hid (mayL o ws = (upto (nth o ws) (howMany o ws)).all (okNth o ws)) := hid (by unfold mayL; rw [hcond, Bool.true_and])
  have HNT : Hid (∀ k, k < (allL o ws).length → (nth o ws k).1 = (allL o ws)[k]?.getD 0) := hid fun k hk => by
    rw [allL_nth o ws k (by rw [← allL_len]; exact hk)]; rfl
  have HOK : Hid (∀ k, k < (allL o ws).length → okNth o ws (nth o ws k) = (taskB ((allL o ws)[k]?.getD 0) && (fnd (allL o ws) ((allL o ws)[k]?.getD 0) == (k : Int)))) := hid fun k hk => by
    unfold okNth
    rw [HNT.out k hk]
    rfl
  have HLen : Hid ((allL o ws).length = howMany o ws) := hid (allL_len o ws)
  clear hR hl hcond
  generalize allL o ws = L at *
  go_enter Try.func28, Try.ntmps28
  go_upto_region 2 with ((with_reducible refine (hAll.out).mono ?_); rintro e w1 ⟨D, d, rfl, hO, hb1⟩; obtain ⟨a0, a1, a2, a3⟩ := two_facts (B1.out.belowS hb1))
  go_cut [15] (fun s15 wx => s15 = .bool false ∧ wx = w1)
  case first =>
    cases g1
    · go_wp2
      go_meet
      exact ⟨rfl, rfl⟩
    · obtain rfl : g2 = false := by simpa using hgg
      have hni : decide (0 < (n : Int)) = false := by simpa using hg2
      go_wp2
      go_meet
      exact ⟨rfl, rfl⟩
  case rest =>
    obtain ⟨rfl, rfl⟩ := hcut
    have hr := hid (hO.rd.low (Nat.zero_le _))
    have hB1 := hid (below_al hb1)
    have BX := hid (B1.out.belowS hb1)
    clear hO hb1 hg1 hg2 hgg
    go_wp2_with fail
    go_loopw [4] (fun i wr => ∃ k : Nat, k ≤ L.length ∧ i = .int .i64 k ∧ (∀ j, j < k → okNth o ws (nth o ws j) = true) ∧ Below wc.heap.size wc wr) (fun i _ => L.length - (intOf i).toNat)
    case atStart => exact ⟨0, Nat.zero_le _, rfl, fun j hj => absurd hj (Nat.not_lt_zero _), Below.refl _ _⟩
    case round =>
      obtain ⟨k, hk, rfl, hgood, hbr⟩ := hrel
      have HG := hid hgood
      clear hgood
      have htz : (0 : Int) ≤ (k : Int) := by omega
      by_cases hlt : k < L.length
      · obtain ⟨b, off, rfl, _, hc⟩ := (hr.out.below hbr).int hlt
        obtain ⟨b0, b1, b2, b3⟩ := two_facts (BX.out.belowS hbr)
        have hti : (k : Int) < (L.length : Int) := by omega
        have hok := HOK.out k hlt
        have HBw := hid (below_chain hB1.out hbr)
        generalize L[k]?.getD 0 = x at *
        have hT := hid (refTask_any x)
        have hFx := hid (fun W h => hF.out x W h)
        have HOk := hid hok
        clear hok
        generalize hz : fnd L x = z at *
        generalize hq : taskB x = q1 at *
        clear hz hq
        have hSt : wr.drew.cell? ⟨w.heap.size, 0, none⟩ = some (.int .i64 o) ∧ wr.drew.cell? ⟨w.heap.size, 1, none⟩ = some (.slice A n c) ∧ wr.drew.cell? ⟨b, off + k, none⟩ = some (.int .i64 x) ∧ Below wr.heap.size wr wr.drew := ⟨b0, b1, hc, rfl, rfl, rfl, Nat.le_refl _, fun _ _ => rfl⟩
        cases q1
        · go_wp2_with fail
          refine wp_region_held_drew (S := (fun w' => w'.cell? ⟨w.heap.size, 0, none⟩ = some (.int .i64 o) ∧ w'.cell? ⟨w.heap.size, 1, none⟩ = some (.slice A n c) ∧ w'.cell? ⟨b, off + k, none⟩ = some (.int .i64 x) ∧ Below wr.heap.size wr w')) (by kernel_rfl) hSt (fun hHeld => ?_)
          refine reg_take (v := ?_) 0 rfl (by kernel_rfl) (by kernel_rfl) (by kernel_rfl) (fun _ _ _ h => h) (Or.inl ⟨by rfl, ?_⟩) (by assumption) ?_; rotate_left; (intro w hSw; (try dsimp only at hSw); go_simp); (try with_reducible rfl); (try simp only [Act.put, List.setIfInBounds_toArray, List.set_cons_zero, List.set_cons_succ])
          refine reg_take (v := ?_) 1 rfl (by kernel_rfl) (by kernel_rfl) (by kernel_rfl) (fun _ _ _ h => h) (Or.inl ⟨by rfl, ?_⟩) (by assumption) ?_; rotate_left; (intro w hSw; (try dsimp only at hSw); go_simp); (try with_reducible rfl); (try simp only [Act.put, List.setIfInBounds_toArray, List.set_cons_zero, List.set_cons_succ])
          refine reg_take (v := ?_) 2 rfl (by kernel_rfl) (by kernel_rfl) (by kernel_rfl) (fun _ _ _ h => h) (Or.inl ⟨by rfl, ?_⟩) (by assumption) ?_; rotate_left; (intro w hSw; (try dsimp only at hSw); go_simp); (try with_reducible rfl); (try simp only [Act.put, List.setIfInBounds_toArray, List.set_cons_zero, List.set_cons_succ])
          refine reg_take (v := ?_) 3 rfl (by kernel_rfl) (by kernel_rfl) (by kernel_rfl) (fun _ _ _ h => h) (Or.inl ⟨by rfl, ?_⟩) (by assumption) ?_; rotate_left; (intro w hSw; (try dsimp only at hSw); go_simp); (try with_reducible rfl); (try simp only [Act.put, List.setIfInBounds_toArray, List.set_cons_zero, List.set_cons_succ])
          refine reg_only 4 rfl (by kernel_rfl) (fun K hK => ?_); go_simp; (with_reducible refine (hT.out _).mono ?_); rintro e wt ⟨rfl, rfl⟩; refine hK.out _ _ ?_ (fun hHeld => ?_); (exact hHeld); clear hK K; (try simp only [Act.put, List.setIfInBounds_toArray, List.set_cons_zero, List.set_cons_succ])
          refine reg_take (v := ?_) 5 rfl (by kernel_rfl) (by kernel_rfl) (by kernel_rfl) (fun _ _ _ h => h) (Or.inl ⟨by rfl, ?_⟩) (by assumption) ?_; rotate_left; (intro w hSw; (try dsimp only at hSw); go_simp); (try with_reducible rfl); (try simp only [Act.put, List.setIfInBounds_toArray, List.set_cons_zero, List.set_cons_succ])
          refine reg_take (v := ?_) 6 rfl (by kernel_rfl) (by kernel_rfl) (by kernel_rfl) (fun _ _ _ h => h) (Or.inl ⟨by rfl, ?_⟩) (by assumption) ?_; rotate_left; (intro w hSw; (try dsimp only at hSw); go_simp); (try with_reducible rfl); (try simp only [Act.put, List.setIfInBounds_toArray, List.set_cons_zero, List.set_cons_succ])
          refine reg_take (v := undef) 7 rfl (by kernel_rfl) (by kernel_rfl) (by kernel_rfl) (fun _ _ _ h => h) (Or.inr ⟨by rfl, rfl⟩) (by assumption) ?_; (try simp only [Act.put, List.setIfInBounds_toArray, List.set_cons_zero, List.set_cons_succ])
          refine reg_take (v := undef) 8 rfl (by kernel_rfl) (by kernel_rfl) (by kernel_rfl) (fun _ _ _ h => h) (Or.inr ⟨by rfl, rfl⟩) (by assumption) ?_; (try simp only [Act.put, List.setIfInBounds_toArray, List.set_cons_zero, List.set_cons_succ])
          refine reg_take (v := undef) 9 rfl (by kernel_rfl) (by kernel_rfl) (by kernel_rfl) (fun _ _ _ h => h) (Or.inr ⟨by rfl, rfl⟩) (by assumption) ?_; (try simp only [Act.put, List.setIfInBounds_toArray, List.set_cons_zero, List.set_cons_succ])
          refine reg_take (v := undef) 10 rfl (by kernel_rfl) (by kernel_rfl) (by kernel_rfl) (fun _ _ _ h => h) (Or.inr ⟨by rfl, rfl⟩) (by assumption) ?_; (try simp only [Act.put, List.setIfInBounds_toArray, List.set_cons_zero, List.set_cons_succ])
          refine reg_take (v := undef) 11 rfl (by kernel_rfl) (by kernel_rfl) (by kernel_rfl) (fun _ _ _ h => h) (Or.inr ⟨by rfl, rfl⟩) (by assumption) ?_; (try simp only [Act.put, List.setIfInBounds_toArray, List.set_cons_zero, List.set_cons_succ])
          refine reg_take (v := undef) 12 rfl (by kernel_rfl) (by kernel_rfl) (by kernel_rfl) (fun _ _ _ h => h) (Or.inr ⟨by rfl, rfl⟩) (by assumption) ?_; (try simp only [Act.put, List.setIfInBounds_toArray, List.set_cons_zero, List.set_cons_succ])
          refine reg_take (v := undef) 13 rfl (by kernel_rfl) (by kernel_rfl) (by kernel_rfl) (fun _ _ _ h => h) (Or.inr ⟨by rfl, rfl⟩) (by assumption) ?_; (try simp only [Act.put, List.setIfInBounds_toArray, List.set_cons_zero, List.set_cons_succ])
          refine reg_take (v := undef) 14 rfl (by kernel_rfl) (by kernel_rfl) (by kernel_rfl) (fun _ _ _ h => h) (Or.inr ⟨by rfl, rfl⟩) (by assumption) ?_; (try simp only [Act.put, List.setIfInBounds_toArray, List.set_cons_zero, List.set_cons_succ])
          refine reg_take (v := ?_) 15 rfl (by kernel_rfl) (by kernel_rfl) (by kernel_rfl) (fun _ _ _ h => h) (Or.inl ⟨by rfl, ?_⟩) (by assumption) ?_; rotate_left; (intro w hSw; (try dsimp only at hSw); go_simp); (try with_reducible rfl); (try simp only [Act.put, List.setIfInBounds_toArray, List.set_cons_zero, List.set_cons_succ])
          refine wpAnyH_done (by kernel_rfl) ?_ _
          go_wp2
          go_ret
          have hno : mayL o ws = false := by
            rw [HM.out, List.all_eq_false]
            exact ⟨_, mem_upto (nth o ws) _ k (by rw [← HLen.out]; exact hlt), by rw [HOk.out]; simp⟩
          exact ⟨ret_b hno, below_chain HBw.out hHeld.2.2.2⟩
        · by_cases hzk : z = (k : Int)
          · have hzb : (z != (k : Int)) = false := by simp [bne, hzk]
            have HZ := hid hzk
            clear hzk
            go_wp2_with fail
            refine wp_region_held_drew (S := (fun w' => w'.cell? ⟨w.heap.size, 0, none⟩ = some (.int .i64 o) ∧ w'.cell? ⟨w.heap.size, 1, none⟩ = some (.slice A n c) ∧ w'.cell? ⟨b, off + k, none⟩ = some (.int .i64 x) ∧ Below wr.heap.size wr w')) (by kernel_rfl) hSt (fun hHeld => ?_)
            refine reg_take (v := ?_) 0 rfl (by kernel_rfl) (by kernel_rfl) (by kernel_rfl) (fun _ _ _ h => h) (Or.inl ⟨by rfl, ?_⟩) (by assumption) ?_; rotate_left; (intro w hSw; (try dsimp only at hSw); go_simp); (try with_reducible rfl); (try simp only [Act.put, List.setIfInBounds_toArray, List.set_cons_zero, List.set_cons_succ])
            refine reg_take (v := ?_) 1 rfl (by kernel_rfl) (by kernel_rfl) (by kernel_rfl) (fun _ _ _ h => h) (Or.inl ⟨by rfl, ?_⟩) (by assumption) ?_; rotate_left; (intro w hSw; (try dsimp only at hSw); go_simp); (try with_reducible rfl); (try simp only [Act.put, List.setIfInBounds_toArray, List.set_cons_zero, List.set_cons_succ])
            refine reg_take (v := ?_) 2 rfl (by kernel_rfl) (by kernel_rfl) (by kernel_rfl) (fun _ _ _ h => h) (Or.inl ⟨by rfl, ?_⟩) (by assumption) ?_; rotate_left; (intro w hSw; (try dsimp only at hSw); go_simp); (try with_reducible rfl); (try simp only [Act.put, List.setIfInBounds_toArray, List.set_cons_zero, List.set_cons_succ])
            refine reg_take (v := ?_) 3 rfl (by kernel_rfl) (by kernel_rfl) (by kernel_rfl) (fun _ _ _ h => h) (Or.inl ⟨by rfl, ?_⟩) (by assumption) ?_; rotate_left; (intro w hSw; (try dsimp only at hSw); go_simp); (try with_reducible rfl); (try simp only [Act.put, List.setIfInBounds_toArray, List.set_cons_zero, List.set_cons_succ])
            refine reg_only 4 rfl (by kernel_rfl) (fun K hK => ?_); go_simp; (with_reducible refine (hT.out _).mono ?_); rintro e wt ⟨rfl, rfl⟩; refine hK.out _ _ ?_ (fun hHeld => ?_); (exact hHeld); clear hK K; (try simp only [Act.put, List.setIfInBounds_toArray, List.set_cons_zero, List.set_cons_succ])
            refine reg_take (v := ?_) 5 rfl (by kernel_rfl) (by kernel_rfl) (by kernel_rfl) (fun _ _ _ h => h) (Or.inl ⟨by rfl, ?_⟩) (by assumption) ?_; rotate_left; (intro w hSw; (try dsimp only at hSw); go_simp); (try with_reducible rfl); (try simp only [Act.put, List.setIfInBounds_toArray, List.set_cons_zero, List.set_cons_succ])
            refine reg_take (v := ?_) 6 rfl (by kernel_rfl) (by kernel_rfl) (by kernel_rfl) (fun _ _ _ h => h) (Or.inl ⟨by rfl, ?_⟩) (by assumption) ?_; rotate_left; (intro w hSw; (try dsimp only at hSw); go_simp); (try with_reducible rfl); (try simp only [Act.put, List.setIfInBounds_toArray, List.set_cons_zero, List.set_cons_succ])
            refine reg_take (v := ?_) 7 rfl (by kernel_rfl) (by kernel_rfl) (by kernel_rfl) (fun _ _ _ h => h) (Or.inl ⟨by rfl, ?_⟩) (by assumption) ?_; rotate_left; (intro w hSw; (try dsimp only at hSw); go_simp); (try with_reducible rfl); (try simp only [Act.put, List.setIfInBounds_toArray, List.set_cons_zero, List.set_cons_succ])
            refine reg_take (v := ?_) 8 rfl (by kernel_rfl) (by kernel_rfl) (by kernel_rfl) (fun _ _ _ h => h) (Or.inl ⟨by rfl, ?_⟩) (by assumption) ?_; rotate_left; (intro w hSw; (try dsimp only at hSw); go_simp); (try with_reducible rfl); (try simp only [Act.put, List.setIfInBounds_toArray, List.set_cons_zero, List.set_cons_succ])
            refine reg_take (v := ?_) 9 rfl (by kernel_rfl) (by kernel_rfl) (by kernel_rfl) (fun _ _ _ h => h) (Or.inl ⟨by rfl, ?_⟩) (by assumption) ?_; rotate_left; (intro w hSw; (try dsimp only at hSw); go_simp); (try with_reducible rfl); (try simp only [Act.put, List.setIfInBounds_toArray, List.set_cons_zero, List.set_cons_succ])
            refine reg_take (v := ?_) 10 rfl (by kernel_rfl) (by kernel_rfl) (by kernel_rfl) (fun _ _ _ h => h) (Or.inl ⟨by rfl, ?_⟩) (by assumption) ?_; rotate_left; (intro w hSw; (try dsimp only at hSw); go_simp); (try with_reducible rfl); (try simp only [Act.put, List.setIfInBounds_toArray, List.set_cons_zero, List.set_cons_succ])
            refine reg_take (v := ?_) 11 rfl (by kernel_rfl) (by kernel_rfl) (by kernel_rfl) (fun _ _ _ h => h) (Or.inl ⟨by rfl, ?_⟩) (by assumption) ?_; rotate_left; (intro w hSw; (try dsimp only at hSw); go_simp); (try with_reducible rfl); (try simp only [Act.put, List.setIfInBounds_toArray, List.set_cons_zero, List.set_cons_succ])
            refine reg_take (v := ?_) 13 rfl (by kernel_rfl) (by kernel_rfl) (by kernel_rfl) (fun _ _ _ h => h) (Or.inl ⟨by rfl, ?_⟩) (by assumption) ?_; rotate_left; (intro w hSw; (try dsimp only at hSw); go_simp); (try with_reducible rfl); (try simp only [Act.put, List.setIfInBounds_toArray, List.set_cons_zero, List.set_cons_succ])
            refine reg_only 12 rfl (by kernel_rfl) (fun K hK => ?_); go_simp; (with_reducible refine (hFx.out _ (below_chain HBw.out hHeld.2.2.2)).mono ?_); rintro e w9 ⟨rfl, hb9⟩; refine hK.out _ _ ?_ (fun hHeld => ?_); (exact ⟨(hb9.cell (p := ⟨w.heap.size, 0, none⟩) (cell_lt hHeld.1)).trans hHeld.1, (hb9.cell (p := ⟨w.heap.size, 1, none⟩) (cell_lt (a := ⟨w.heap.size, 1, none⟩) hHeld.2.1)).trans hHeld.2.1, (hb9.cell (p := ⟨b, off + k, none⟩) (cell_lt hHeld.2.2.1)).trans hHeld.2.2.1, hHeld.2.2.2.trans (hb9.mono hHeld.2.2.2.size)⟩); clear hK K; (try simp only [Act.put, List.setIfInBounds_toArray, List.set_cons_zero, List.set_cons_succ])
            refine reg_take (v := ?_) 14 rfl (by kernel_rfl) (by kernel_rfl) (by kernel_rfl) (fun _ _ _ h => h) (Or.inl ⟨by rfl, ?_⟩) (by assumption) ?_; rotate_left; (intro w hSw; (try dsimp only at hSw); go_simp); (try with_reducible rfl); (try simp only [Act.put, List.setIfInBounds_toArray, List.set_cons_zero, List.set_cons_succ])
            refine reg_take (v := ?_) 15 rfl (by kernel_rfl) (by kernel_rfl) (by kernel_rfl) (fun _ _ _ h => h) (Or.inl ⟨by rfl, ?_⟩) (by assumption) ?_; rotate_left; (intro w hSw; (try dsimp only at hSw); go_simp); (try with_reducible rfl); (try simp only [Act.put, List.setIfInBounds_toArray, List.set_cons_zero, List.set_cons_succ])
            refine wpAnyH_done (by kernel_rfl) ?_ _
            go_wp2
            refine ⟨⟨k + 1, by omega, by go_num, fun j hj => ?_, hbr.trans (hHeld.2.2.2.mono hbr.size)⟩, by simp [intOf]; omega⟩
            rcases Nat.lt_succ_iff_lt_or_eq.1 hj with h | rfl
            · exact HG.out j h
            · rw [HOk.out, HZ.out]; simp
          · have hzb : (z != (k : Int)) = true := by simpa [bne] using hzk
            have HZ := hid hzk
            clear hzk
            go_wp2_with fail
            refine wp_region_held_drew (S := (fun w' => w'.cell? ⟨w.heap.size, 0, none⟩ = some (.int .i64 o) ∧ w'.cell? ⟨w.heap.size, 1, none⟩ = some (.slice A n c) ∧ w'.cell? ⟨b, off + k, none⟩ = some (.int .i64 x) ∧ Below wr.heap.size wr w')) (by kernel_rfl) hSt (fun hHeld => ?_)
            refine reg_take (v := ?_) 0 rfl (by kernel_rfl) (by kernel_rfl) (by kernel_rfl) (fun _ _ _ h => h) (Or.inl ⟨by rfl, ?_⟩) (by assumption) ?_; rotate_left; (intro w hSw; (try dsimp only at hSw); go_simp); (try with_reducible rfl); (try simp only [Act.put, List.setIfInBounds_toArray, List.set_cons_zero, List.set_cons_succ])
            refine reg_take (v := ?_) 1 rfl (by kernel_rfl) (by kernel_rfl) (by kernel_rfl) (fun _ _ _ h => h) (Or.inl ⟨by rfl, ?_⟩) (by assumption) ?_; rotate_left; (intro w hSw; (try dsimp only at hSw); go_simp); (try with_reducible rfl); (try simp only [Act.put, List.setIfInBounds_toArray, List.set_cons_zero, List.set_cons_succ])
            refine reg_take (v := ?_) 2 rfl (by kernel_rfl) (by kernel_rfl) (by kernel_rfl) (fun _ _ _ h => h) (Or.inl ⟨by rfl, ?_⟩) (by assumption) ?_; rotate_left; (intro w hSw; (try dsimp only at hSw); go_simp); (try with_reducible rfl); (try simp only [Act.put, List.setIfInBounds_toArray, List.set_cons_zero, List.set_cons_succ])
            refine reg_take (v := ?_) 3 rfl (by kernel_rfl) (by kernel_rfl) (by kernel_rfl) (fun _ _ _ h => h) (Or.inl ⟨by rfl, ?_⟩) (by assumption) ?_; rotate_left; (intro w hSw; (try dsimp only at hSw); go_simp); (try with_reducible rfl); (try simp only [Act.put, List.setIfInBounds_toArray, List.set_cons_zero, List.set_cons_succ])
            refine reg_only 4 rfl (by kernel_rfl) (fun K hK => ?_); go_simp; (with_reducible refine (hT.out _).mono ?_); rintro e wt ⟨rfl, rfl⟩; refine hK.out _ _ ?_ (fun hHeld => ?_); (exact hHeld); clear hK K; (try simp only [Act.put, List.setIfInBounds_toArray, List.set_cons_zero, List.set_cons_succ])
            refine reg_take (v := ?_) 5 rfl (by kernel_rfl) (by kernel_rfl) (by kernel_rfl) (fun _ _ _ h => h) (Or.inl ⟨by rfl, ?_⟩) (by assumption) ?_; rotate_left; (intro w hSw; (try dsimp only at hSw); go_simp); (try with_reducible rfl); (try simp only [Act.put, List.setIfInBounds_toArray, List.set_cons_zero, List.set_cons_succ])
            refine reg_take (v := ?_) 6 rfl (by kernel_rfl) (by kernel_rfl) (by kernel_rfl) (fun _ _ _ h => h) (Or.inl ⟨by rfl, ?_⟩) (by assumption) ?_; rotate_left; (intro w hSw; (try dsimp only at hSw); go_simp); (try with_reducible rfl); (try simp only [Act.put, List.setIfInBounds_toArray, List.set_cons_zero, List.set_cons_succ])
            refine reg_take (v := ?_) 7 rfl (by kernel_rfl) (by kernel_rfl) (by kernel_rfl) (fun _ _ _ h => h) (Or.inl ⟨by rfl, ?_⟩) (by assumption) ?_; rotate_left; (intro w hSw; (try dsimp only at hSw); go_simp); (try with_reducible rfl); (try simp only [Act.put, List.setIfInBounds_toArray, List.set_cons_zero, List.set_cons_succ])
            refine reg_take (v := ?_) 8 rfl (by kernel_rfl) (by kernel_rfl) (by kernel_rfl) (fun _ _ _ h => h) (Or.inl ⟨by rfl, ?_⟩) (by assumption) ?_; rotate_left; (intro w hSw; (try dsimp only at hSw); go_simp); (try with_reducible rfl); (try simp only [Act.put, List.setIfInBounds_toArray, List.set_cons_zero, List.set_cons_succ])
            refine reg_take (v := ?_) 9 rfl (by kernel_rfl) (by kernel_rfl) (by kernel_rfl) (fun _ _ _ h => h) (Or.inl ⟨by rfl, ?_⟩) (by assumption) ?_; rotate_left; (intro w hSw; (try dsimp only at hSw); go_simp); (try with_reducible rfl); (try simp only [Act.put, List.setIfInBounds_toArray, List.set_cons_zero, List.set_cons_succ])
            refine reg_take (v := ?_) 10 rfl (by kernel_rfl) (by kernel_rfl) (by kernel_rfl) (fun _ _ _ h => h) (Or.inl ⟨by rfl, ?_⟩) (by assumption) ?_; rotate_left; (intro w hSw; (try dsimp only at hSw); go_simp); (try with_reducible rfl); (try simp only [Act.put, List.setIfInBounds_toArray, List.set_cons_zero, List.set_cons_succ])
            refine reg_take (v := ?_) 11 rfl (by kernel_rfl) (by kernel_rfl) (by kernel_rfl) (fun _ _ _ h => h) (Or.inl ⟨by rfl, ?_⟩) (by assumption) ?_; rotate_left; (intro w hSw; (try dsimp only at hSw); go_simp); (try with_reducible rfl); (try simp only [Act.put, List.setIfInBounds_toArray, List.set_cons_zero, List.set_cons_succ])
            refine reg_take (v := ?_) 13 rfl (by kernel_rfl) (by kernel_rfl) (by kernel_rfl) (fun _ _ _ h => h) (Or.inl ⟨by rfl, ?_⟩) (by assumption) ?_; rotate_left; (intro w hSw; (try dsimp only at hSw); go_simp); (try with_reducible rfl); (try simp only [Act.put, List.setIfInBounds_toArray, List.set_cons_zero, List.set_cons_succ])
            refine reg_only 12 rfl (by kernel_rfl) (fun K hK => ?_); go_simp; (with_reducible refine (hFx.out _ (below_chain HBw.out hHeld.2.2.2)).mono ?_); rintro e w9 ⟨rfl, hb9⟩; refine hK.out _ _ ?_ (fun hHeld => ?_); (exact ⟨(hb9.cell (p := ⟨w.heap.size, 0, none⟩) (cell_lt hHeld.1)).trans hHeld.1, (hb9.cell (p := ⟨w.heap.size, 1, none⟩) (cell_lt (a := ⟨w.heap.size, 1, none⟩) hHeld.2.1)).trans hHeld.2.1, (hb9.cell (p := ⟨b, off + k, none⟩) (cell_lt hHeld.2.2.1)).trans hHeld.2.2.1, hHeld.2.2.2.trans (hb9.mono hHeld.2.2.2.size)⟩); clear hK K; (try simp only [Act.put, List.setIfInBounds_toArray, List.set_cons_zero, List.set_cons_succ])
            refine reg_take (v := ?_) 14 rfl (by kernel_rfl) (by kernel_rfl) (by kernel_rfl) (fun _ _ _ h => h) (Or.inl ⟨by rfl, ?_⟩) (by assumption) ?_; rotate_left; (intro w hSw; (try dsimp only at hSw); go_simp); (try with_reducible rfl); (try simp only [Act.put, List.setIfInBounds_toArray, List.set_cons_zero, List.set_cons_succ])
            refine reg_take (v := ?_) 15 rfl (by kernel_rfl) (by kernel_rfl) (by kernel_rfl) (fun _ _ _ h => h) (Or.inl ⟨by rfl, ?_⟩) (by assumption) ?_; rotate_left; (intro w hSw; (try dsimp only at hSw); go_simp); (try with_reducible rfl); (try simp only [Act.put, List.setIfInBounds_toArray, List.set_cons_zero, List.set_cons_succ])
            refine wpAnyH_done (by kernel_rfl) ?_ _
            go_wp2
            go_ret
            have hno : mayL o ws = false := by
              rw [HM.out, List.all_eq_false]
              exact ⟨_, mem_upto (nth o ws) _ k (by rw [← HLen.out]; exact hlt), by rw [HOk.out]; simpa using HZ.out⟩
            exact ⟨ret_b hno, below_chain HBw.out hHeld.2.2.2⟩
      · obtain rfl : k = L.length := by omega
        have hti : ¬ (L.length : Int) < (L.length : Int) := by omega
        have hyes : mayL o ws = true := by
          rw [HM.out, upto_all]
          intro i hi
          exact HG.out i (by rw [HLen.out]; exact hi)
        have HY := hid hyes
        clear hyes
        go_wp2
        go_ret
        exact ⟨ret_b HY.out, below_chain hB1.out hbr⟩

theorem refMay_any (o : Int) (A : Option Addr) (n c : Nat) (ws : List Int) (w : World) (hn : n ≤ 1000) (hR : Rd w 0 1 A n (ws.map iv)) :
    Calls Try.prog 28 #[.agg #[.int .i64 o, .slice A n c]] w fun e w' => e = .returned (.bool (mayL o ws)) ∧ Below w.heap.size w w' := by
  have hl : ws.length = n := by simpa using hR.1
  by_cases hb : o = 0 ∧ 0 < n
  · obtain ⟨rfl, hn0⟩ := hb
    have : mayL 0 ws = false := by
      unfold mayL
      rw [show ws.isEmpty = false by cases ws with | nil => simp at hl; omega | cons a l => rfl]
      rfl
    rw [this]
    exact refMay_bad A n c ws w hn hn0 hR
  · refine refMay_loop o A n c ws w hn hR ?_ _ _ rfl rfl ?_
    · by_cases ho : o = 0
      · have h0 : ws = [] := List.eq_nil_of_length_eq_zero (by omega)
        simp [h0]
      · simp [ho]
    · by_cases ho : o = 0
      · have h0 : n = 0 := by omega
        simp [h0]
      · have : (allL o ws).length ≠ 0 := by unfold allL; rw [if_neg ho]; simp
        rw [show (((allL o ws).length : Int) == 0) = false from beq_eq_false_iff_ne.2 (by omega)]
        rfl

set_option maxHeartbeats 1000000 in
theorem refCheck_any (o : Int) (A : Option Addr) (n c : Nat) (ws : List Int) (w : World) (hn : n ≤ 1000) (hR : Rd w 0 1 A n (ws.map iv)) :
    Calls Try.prog 17 #[.agg #[.int .i64 o, .slice A n c]] w fun e w' => e = .returned (.int .i64 (errOf (mayL o ws))) ∧ Below w.heap.size w w' := by
  have hM := hid (refMay_any o A n c ws _ hn (hR.below (below_alloc1 w (.cells #[.int .i64 o, .slice A n c] 24))))
  clear hR
  generalize mayL o ws = q at *
  cases q
  all_goals
    go_enter Try.func17, Try.ntmps17
    go_wp2_with ((with_reducible refine (hM.out).mono ?_); rintro e w1 ⟨rfl, hb1⟩)
    go_ret
    exact ⟨rfl, below_al hb1⟩

set_option maxHeartbeats 1000000 in
theorem refAhead_any (o x : Int) (A : Option Addr) (n c : Nat) (ws : List Int) (w : World) (hn : n ≤ 1000) (hR : Rd w 0 1 A n (ws.map iv)) :
    Calls Try.prog 15 #[.agg #[.int .i64 o, .slice A n c], .int .i64 x] w fun e w' => e = .returned (.tuple #[.int .i64 (aheadL o ws x).1, .int .i64 (aheadL o ws x).2]) ∧ Below w.heap.size w w' := by
  have hR1 := hR.below (below_alloc1 w (.cells #[.int .i64 o, .slice A n c] 24))
  have hM := hid (refMay_any o A n c ws _ hn hR1)
  have hT := hid (refTask_any x)
  have hF := hid (fun W (h : Rd W 0 1 A n (ws.map iv)) => refFind_any o x A n c ws W hn h)
  have HR := hid hR1
  have B1 := hid (Blk.new w 24 #[.int .i64 o, .slice A n c])
  have hA : aheadL o ws x = if mayL o ws then (if taskB x then (if fnd (allL o ws) x < 0 then (0, 2) else (fnd (allL o ws) x, 0)) else (0, 2)) else (0, 8) := by
    unfold aheadL askedE
    cases mayL o ws <;> cases taskB x <;> simp
  rw [hA]
  clear hA hR hR1
  generalize mayL o ws = q at *
  generalize taskB x = q2 at *
  generalize fnd (allL o ws) x = z at *
  cases q
  · go_enter Try.func15, Try.ntmps15
    go_wp2_with ((with_reducible refine (hM.out).mono ?_); rintro e w1 ⟨rfl, hb1⟩)
    go_ret2
    exact ⟨rfl, below_al hb1⟩
  · cases q2
    · go_enter Try.func15, Try.ntmps15
      go_wp2_with (first
        | ((with_reducible refine (hM.out).mono ?_); rintro e w1 ⟨rfl, hb1⟩)
        | ((with_reducible refine (hT.out _).mono ?_); rintro e w2 ⟨rfl, rfl⟩))
      go_ret2
      exact ⟨rfl, below_al hb1⟩
    · by_cases hz : z < 0
      · have hz1 : Hid ((if True then (if z < 0 then ((0 : Int), (2 : Int)) else (z, 0)) else (0, 2)) = (0, 2)) := hid (by rw [if_pos trivial, if_pos hz])
        go_enter Try.func15, Try.ntmps15
        go_wp2_with (first
          | ((with_reducible refine (hM.out).mono ?_); rintro e w1 ⟨rfl, hb1⟩; obtain ⟨a0, a1, a2, a3⟩ := two_facts (B1.out.belowS hb1))
          | ((with_reducible refine (hT.out _).mono ?_); rintro e w2 ⟨rfl, rfl⟩)
          | ((with_reducible refine (hF.out _ (HR.out.below hb1)).mono ?_); rintro e w3 ⟨rfl, hb3⟩))
        go_ret2
        refine ⟨?_, below_al (below_chain hb1 hb3)⟩
        simp
      · have hz' : 0 ≤ z := by omega
        go_enter Try.func15, Try.ntmps15
        go_upto_if 17 with (first
          | ((with_reducible refine (hM.out).mono ?_); rintro e w1 ⟨rfl, hb1⟩; obtain ⟨a0, a1, a2, a3⟩ := two_facts (B1.out.belowS hb1))
          | ((with_reducible refine (hT.out _).mono ?_); rintro e w2 ⟨rfl, rfl⟩)
          | ((with_reducible refine (hF.out _ (HR.out.below hb1)).mono ?_); rintro e w3 ⟨rfl, hb3⟩; obtain ⟨d0, d1, d2, d3⟩ := two_facts ((B1.out.belowS hb1).belowS hb3)))
        go_wp2_with ((with_reducible refine (hF.out _ ((HR.out.below hb1).below hb3)).mono ?_); rintro e w4 ⟨rfl, hb4⟩)
        go_ret2
        refine ⟨?_, below_al (below_chain (below_chain hb1 hb3) hb4)⟩
        simp

end Go.Proofs.Ytopicgodflhjcaa
