/-
  In which part a row stands, from above on: in plain words; contracts of slices.Reverse at bools and of rows.turns. No condition beyond those each theorem names.
-/
import Derived.Test.YtheljogmnalbmaaDoorRowC
import Derived.Test.YtheljogmnalbmaaDoorRegA
namespace Go.Proofs.YtheljogmnalbmaaDoor
open Go.RowKit
set_option linter.unusedSimpArgs false
set_option linter.unusedVariables false

theorem Own.base {w : World} {lo n c : Nat} {e : TypeId} {sz : Nat} {A : Option Addr} {xs : List Value} (h : Own w lo e sz A n c xs) (hn : 0 < n) : ∃ g, A = some ⟨g, 0, none⟩ ∧ rowOf A c = some g ∧ lo ≤ g ∧ g < w.heap.size := by
  rcases h with ⟨rfl, _, _⟩ | ⟨g, cur, rfl, hlo, hg, hnc, _⟩
  · omega
  · refine ⟨g, rfl, ?_, hlo, lt_block hg⟩
    unfold rowOf
    rw [if_neg (by omega)]
    rfl
theorem bool_info : (Tryd.prog.info? 4).map (fun i => (i.zero, i.size, i.bytes)) = some (some (.bool false), 1, 1) := by kernel_rfl
/-- Which part, from above on. -/
def turnsL (many i : Nat) : List Bool :=
  if h : 2 ≤ many then
    (if frontN many ≤ i then true :: turnsL (many - frontN many) (i - frontN many) else false :: turnsL (frontN many) i)
  else []
termination_by many
decreasing_by
  · have := frontN_bounds h; omega
  · have := frontN_bounds h; omega
theorem turnsL_ge {m i : Nat} (h : 2 ≤ m) (hi : frontN m ≤ i) : turnsL m i = true :: turnsL (m - frontN m) (i - frontN m) := by
  rw [turnsL, dif_pos h, if_pos hi]
theorem turnsL_lt {m i : Nat} (h : 2 ≤ m) (hi : ¬ frontN m ≤ i) : turnsL m i = false :: turnsL (frontN m) i := by
  rw [turnsL, dif_pos h, if_neg hi]
theorem turnsL_one {m i : Nat} (h : ¬ 2 ≤ m) : turnsL m i = [] := by
  rw [turnsL, dif_neg h]
/-- Turned round, the outer k at each end. -/
def revB (l : List Bool) (k : Nat) : List Bool := (List.range l.length).map fun j => if j < k ∨ l.length ≤ j + k then l.getD (l.length - 1 - j) false else l.getD j false
theorem revB_len (l : List Bool) (k : Nat) : (revB l k).length = l.length := by simp [revB]
theorem revB_zero (l : List Bool) : revB l 0 = l := by
  apply List.ext_getElem (by simp [revB])
  intro j h1 h2
  simp [revB, show ¬ l.length ≤ j by omega, h2]
theorem revB_full {l : List Bool} {k : Nat} (h : ¬ (k : Int) < (l.length : Int) - 1 - k) : revB l k = l.reverse := by
  apply List.ext_getElem (by simp [revB])
  intro j h1 h2
  have hj : j < l.length := by simpa [revB] using h1
  rw [List.getElem_reverse]
  simp only [revB, List.getElem_map, List.getElem_range, List.getD_eq_getElem?_getD]
  split
  · rw [List.getElem?_eq_getElem (by omega)]
    rfl
  · rw [List.getElem?_eq_getElem hj]
    have : j = l.length - 1 - j := by omega
    simp only [Option.getD_some]
    congr 1
theorem revB_at {l : List Bool} {k j : Nat} (h1 : k ≤ j) (h2 : j + k < l.length) : (revB l k)[j]? = some (l.getD j false) := by
  rw [List.getElem?_eq_getElem (by rw [revB_len]; omega)]
  simp only [revB, List.getElem_map, List.getElem_range]
  rw [if_neg (by omega)]
theorem revB_set {l : List Bool} {k q : Nat} (hq : q + k + 1 = l.length) (hk : k < q) :
    (((revB l k).map Value.bool).set k (.bool (l.getD q false))).set q (.bool (l.getD k false)) = (revB l (k + 1)).map Value.bool := by
  apply List.ext_getElem (by simp [revB])
  intro j h1 h2
  have hj : j < l.length := by simpa [revB] using h2
  rw [List.getElem_set, List.getElem_set]
  simp only [revB, List.getElem_map, List.getElem_range]
  by_cases e : q = j
  · subst e
    rw [if_pos rfl, if_pos (by omega), show l.length - 1 - q = k by omega]
  · rw [if_neg e]
    by_cases e2 : k = j
    · subst e2
      rw [if_pos rfl, if_pos (by omega), show l.length - 1 - k = q by omega]
    · rw [if_neg e2]
      by_cases c : j < k ∨ l.length ≤ j + k
      · rw [if_pos c, if_pos (by omega)]
      · rw [if_neg c, if_neg (by omega)]

set_option maxRecDepth 100000 in
set_option maxHeartbeats 2000000 in
theorem rev_any (D : Option Addr) (n c lo : Nat) (l : List Bool) (w : World) (hO : Own w lo 4 1 D n c (l.map .bool)) (hn : n ≤ 1000) :
    Calls Tryd.prog 34 #[.slice D n c] w fun e w' => (∃ v, e = .returned v) ∧ Own w' lo 4 1 D n c (l.reverse.map .bool) ∧ Chg w w' (fun b => rowOf D c = some b) := by
  have hl : l.length = n := by have := hO.len; simpa using this
  have HL := hid hl
  have HO := hid hO
  clear hO hl
  go_enter Tryd.func34, Tryd.ntmps34
  go_wp2_with fail
  go_loopw [2, 3] (fun i j wx => ∃ (k : Nat) (jj : Int), k ≤ n ∧ i = .int .i64 k ∧ j = .int .i64 jj ∧ jj = (n : Int) - 1 - k ∧ Own wx lo 4 1 D n c ((revB l k).map .bool) ∧ Chg w wx (fun b => rowOf D c = some b)) (fun i j _ => (intOf j + 1 - intOf i).toNat)
  case atStart => exact ⟨0, _, Nat.zero_le _, rfl, rfl, by simp, by rw [revB_zero]; exact HO.out, Chg.refl _ _⟩
  case round =>
    obtain ⟨k, jj, hk, rfl, rfl, hj, hO, hC⟩ := hrel
    have HC := hid hC
    have HOk := hid hO
    by_cases hlt : (k : Int) < jj
    · obtain ⟨q, rfl⟩ : ∃ q : Nat, jj = (q : Int) := ⟨jj.toNat, by omega⟩
      have hqk : q + k + 1 = n := by omega
      have hkq : k < q := by omega
      obtain ⟨g, rfl, hrow, hlg, hgl⟩ := hO.base (by omega)
      obtain ⟨u1, hu1, ck, fk, _⟩ := hO.at_ (k := k) (by omega)
      obtain ⟨u2, hu2, cq, fq, _⟩ := hO.at_ (k := q) (by omega)
      rw [List.getElem?_map, revB_at (Nat.le_refl _) (by rw [HL.out]; omega)] at hu1
      rw [List.getElem?_map, revB_at (by omega) (by rw [HL.out]; omega)] at hu2
      cases hu1
      cases hu2
      have hset := hid (revB_set (l := l) (k := k) (q := q) (by rw [HL.out]; exact hqk) hkq)
      have HQ := hid hqk
      have HK := hid hkq
      have HR := hid hrow
      have hti : (q : Int) < (n : Int) := by omega
      have hki : (k : Int) < (n : Int) := by omega
      have hkz : (0 : Int) ≤ (k : Int) := by omega
      have hqz : (0 : Int) ≤ (q : Int) := by omega
      have nkq : k ≠ q := by omega
      clear hj hqk hkq hrow hC hO hk
      generalize l.getD k false = x at *
      generalize l.getD q false = y at *
      go_wp2_with fail
      have ck' : wr.drew.cell? ⟨g, k, none⟩ = some (.bool x) := ck
      have cq' : wr.drew.cell? ⟨g, q, none⟩ = some (.bool y) := cq
      have fk' : wr.drew.frozen? ⟨g, k, none⟩ = false := fk
      have fq' : wr.drew.frozen? ⟨g, q, none⟩ = false := fq
      refine wp_region_F_drew 13 (S := (fun w' => w'.cell? ⟨g, k, none⟩ = some (.bool x) ∧ w'.cell? ⟨g, q, none⟩ = some (.bool y))) (by kernel_rfl) ⟨ck', cq'⟩ (fun hHeld => ?_)
      refine regF_takeT (v := ?_) 0 (by decide) rfl (by kernel_rfl) (by kernel_rfl) (by kernel_rfl) (fun _ _ _ h => h) (Or.inl ⟨by rfl, ?_⟩) (by assumption) ?_; rotate_left; (intro w hSw; clear hSw; go_simp); (try with_reducible rfl); (try simp only [Act.put, List.setIfInBounds_toArray, List.set_cons_zero, List.set_cons_succ])
      refine regF_takeT (v := ?_) 1 (by decide) rfl (by kernel_rfl) (by kernel_rfl) (by kernel_rfl) (fun _ _ _ h => h) (Or.inl ⟨by rfl, ?_⟩) (by assumption) ?_; rotate_left; (intro w hSw; clear hSw; go_simp); (try with_reducible rfl); (try simp only [Act.put, List.setIfInBounds_toArray, List.set_cons_zero, List.set_cons_succ])
      refine regF_takeT (v := ?_) 2 (by decide) rfl (by kernel_rfl) (by kernel_rfl) (by kernel_rfl) (fun _ _ _ h => h) (Or.inl ⟨by rfl, ?_⟩) (by assumption) ?_; rotate_left; (intro w hSw; clear hSw; go_simp); (try with_reducible rfl); (try simp only [Act.put, List.setIfInBounds_toArray, List.set_cons_zero, List.set_cons_succ])
      refine regF_takeT (v := ?_) 3 (by decide) rfl (by kernel_rfl) (by kernel_rfl) (by kernel_rfl) (fun _ _ _ h => h) (Or.inl ⟨by rfl, ?_⟩) (by assumption) ?_; rotate_left; (intro w hSw; clear hSw; go_simp); (try with_reducible rfl); (try simp only [Act.put, List.setIfInBounds_toArray, List.set_cons_zero, List.set_cons_succ])
      refine regF_takeT (v := ?_) 4 (by decide) rfl (by kernel_rfl) (by kernel_rfl) (by kernel_rfl) (fun _ _ _ h => h) (Or.inl ⟨by rfl, ?_⟩) (by assumption) ?_; rotate_left; (intro w hSw; clear hSw; go_simp); (try with_reducible rfl); (try simp only [Act.put, List.setIfInBounds_toArray, List.set_cons_zero, List.set_cons_succ])
      refine regF_takeT (v := ?_) 5 (by decide) rfl (by kernel_rfl) (by kernel_rfl) (by kernel_rfl) (fun _ _ _ h => h) (Or.inl ⟨by rfl, ?_⟩) (by assumption) ?_; rotate_left; (intro w hSw; clear hSw; go_simp); (try with_reducible rfl); (try simp only [Act.put, List.setIfInBounds_toArray, List.set_cons_zero, List.set_cons_succ])
      refine regF_takeT (v := ?_) 6 (by decide) rfl (by kernel_rfl) (by kernel_rfl) (by kernel_rfl) (fun _ _ _ h => h) (Or.inl ⟨by rfl, ?_⟩) (by assumption) ?_; rotate_left; (intro w hSw; clear hSw; go_simp); (try with_reducible rfl); (try simp only [Act.put, List.setIfInBounds_toArray, List.set_cons_zero, List.set_cons_succ])
      refine regF_take (v := ?_) 7 (by kernel_rfl) (by rfl) rfl (by kernel_rfl) (by kernel_rfl) (by kernel_rfl) (fun _ _ _ h => h) (Or.inl ⟨by rfl, ?_⟩) (by assumption) ?_; rotate_left; (intro w hSw; (try dsimp only at hSw); go_simp); (try with_reducible rfl); (try simp only [Act.put, List.setIfInBounds_toArray, List.set_cons_zero, List.set_cons_succ])
      refine regF_takeT (v := ?_) 8 (by decide) rfl (by kernel_rfl) (by kernel_rfl) (by kernel_rfl) (fun _ _ _ h => h) (Or.inl ⟨by rfl, ?_⟩) (by assumption) ?_; rotate_left; (intro w hSw; clear hSw; go_simp); (try with_reducible rfl); (try simp only [Act.put, List.setIfInBounds_toArray, List.set_cons_zero, List.set_cons_succ])
      refine regF_takeT (v := ?_) 9 (by decide) rfl (by kernel_rfl) (by kernel_rfl) (by kernel_rfl) (fun _ _ _ h => h) (Or.inl ⟨by rfl, ?_⟩) (by assumption) ?_; rotate_left; (intro w hSw; clear hSw; go_simp); (try with_reducible rfl); (try simp only [Act.put, List.setIfInBounds_toArray, List.set_cons_zero, List.set_cons_succ])
      refine regF_takeT (v := ?_) 10 (by decide) rfl (by kernel_rfl) (by kernel_rfl) (by kernel_rfl) (fun _ _ _ h => h) (Or.inl ⟨by rfl, ?_⟩) (by assumption) ?_; rotate_left; (intro w hSw; clear hSw; go_simp); (try with_reducible rfl); (try simp only [Act.put, List.setIfInBounds_toArray, List.set_cons_zero, List.set_cons_succ])
      refine regF_take (v := ?_) 11 (by kernel_rfl) (by rfl) rfl (by kernel_rfl) (by kernel_rfl) (by kernel_rfl) (fun _ _ _ h => h) (Or.inl ⟨by rfl, ?_⟩) (by assumption) ?_; rotate_left; (intro w hSw; (try dsimp only at hSw); go_simp); (try with_reducible rfl); (try simp only [Act.put, List.setIfInBounds_toArray, List.set_cons_zero, List.set_cons_succ])
      refine regF_takeT (v := ?_) 12 (by decide) rfl (by kernel_rfl) (by kernel_rfl) (by kernel_rfl) (fun _ _ _ h => h) (Or.inl ⟨by rfl, ?_⟩) (by assumption) ?_; rotate_left; (intro w hSw; clear hSw; go_simp); (try with_reducible rfl); (try simp only [Act.put, List.setIfInBounds_toArray, List.set_cons_zero, List.set_cons_succ])
      refine regF_last 13 rfl rfl (by kernel_rfl) (fun K hK => ?_); go_simp; skip; refine hK.out _ _ (fun _ => ?_); clear hK K; (try simp only [Act.put, List.setIfInBounds_toArray, List.set_cons_zero, List.set_cons_succ])
      refine regF_takeA (v := ?_) 14 rfl (by decide) rfl (by kernel_rfl) (by kernel_rfl) (by kernel_rfl) (fun _ _ _ h => h) (Or.inl ⟨by rfl, ?_⟩) ?_; rotate_left; (intro w hSw; clear hSw; go_simp); (try with_reducible rfl); (try simp only [Act.put, List.setIfInBounds_toArray, List.set_cons_zero, List.set_cons_succ])
      refine regF_after 15 rfl (by decide) rfl (by kernel_rfl) (fun K hK => ?_); go_simp; refine hK.out _ _ (fun _ => ?_); clear hK K; (try simp only [Act.put, List.setIfInBounds_toArray, List.set_cons_zero, List.set_cons_succ])
      refine wpAnyF_done (by kernel_rfl) ?_ _
      have hOd : Own wr.drew lo 4 1 (some ⟨g, 0, none⟩) n c ((revB l k).map .bool) := HOk.out
      have hO2 := (hOd.set k (.bool y)).set q (.bool x)
      rw [hset.out] at hO2
      have hC2 := ((HC.out.trans (⟨rfl, rfl, rfl, Nat.le_refl _, fun _ _ _ => rfl⟩ : Chg wr wr.drew (fun b => rowOf (some ⟨g, 0, none⟩) c = some b)) (fun b e => e) (fun b _ e => e)).setCell (g := g) (i := k) (.bool y) (.inl HR.out)).setCell (g := g) (i := q) (.bool x) (.inl HR.out)
      clear hOd ck' cq' fk' fq' ck cq fk fq
      have hO2 : Own ((wr.setCell ⟨g, k, none⟩ (.bool y)).setCell ⟨g, q, none⟩ (.bool x)).drew lo 4 1 (some ⟨g, 0, none⟩) n c ((revB l (k + 1)).map .bool) := hO2
      have hC2 : Chg w ((wr.setCell ⟨g, k, none⟩ (.bool y)).setCell ⟨g, q, none⟩ (.bool x)).drew (fun b => rowOf (some ⟨g, 0, none⟩) c = some b) := hC2
      generalize ((wr.setCell ⟨g, k, none⟩ (.bool y)).setCell ⟨g, q, none⟩ (.bool x)).drew = w2 at *
      go_wp2_with fail
      exact ⟨⟨k + 1, (n : Int) - 1 - ((k + 1 : Nat) : Int), by have := HQ.out; omega, by go_num, by have := HQ.out; congr 1; omega, rfl, hO2, hC2⟩, by have := HQ.out; have := HK.out; simp [intOf]; omega⟩
    · have HJ := hid hj
      have hltH := hid hlt
      clear hj
      go_wp2
      go_end0
      have : revB l k = l.reverse := revB_full (by rw [HL.out]; have := HJ.out; have := hltH.out; omega)
      rw [← List.map_reverse, ← this]
      exact ⟨⟨_, rfl⟩, HOk.out, HC.out⟩

/-- What turns answers. -/
def GivesT (w : World) (l : List Bool) (e : Ending) (w' : World) : Prop := ∃ D n c, e = .returned (.slice D n c) ∧ Own w' w.heap.size 4 1 D n c (l.map .bool) ∧ Below w.heap.size w w'

set_option maxRecDepth 100000 in
set_option maxHeartbeats 2000000 in
theorem turns_any (many i : Nat) (w : World) (h1 : 1 ≤ many) (h2 : many ≤ 256) (hi : i < many) :
    Calls Tryd.prog 22 #[.int .i64 many, .int .i64 i] w (GivesT w (turnsL many i).reverse) := by
  obtain ⟨i0, hi0, hz0, hz1, hz2⟩ := info_parts bool_info
  have hFr := hid (fun n h k W => front_any n h k W)
  have hRv := hid (fun D n c l W h k => rev_any D n c w.heap.size l W h k)
  obtain ⟨T, hT⟩ : ∃ T, T = turnsL many i := ⟨_, rfl⟩
  rw [← hT]
  have HT := hid hT
  clear hT
  go_enter Tryd.func22, Tryd.ntmps22
  go_wp2_with fail
  go_loopw [0, 1, 4] (fun a b v wx => ∃ (m j : Nat) (D : Option Addr) (n c : Nat) (pre : List Bool), a = .int .i64 m ∧ b = .int .i64 j ∧ v = .slice D n c ∧ 1 ≤ m ∧ n + m ≤ 256 ∧ j < m ∧ pre ++ turnsL m j = T ∧ Own wx w.heap.size 4 1 D n c (pre.map .bool) ∧ Below w.heap.size w wx) (fun a _ _ _ => (intOf a).toNat)
  case atStart => exact ⟨many, i, none, 0, 0, [], rfl, rfl, rfl, h1, by omega, hi, by rw [HT.out]; rfl, Own.nil _ _ _ _ _, Below.refl _ _⟩
  case round =>
    obtain ⟨m, j, D, n, c, pre, rfl, rfl, rfl, hm1, hnm, hjm, hpre, hO, hb⟩ := hrel
    have HPre := hid hpre
    have HO := hid hO
    have HB := hid hb
    clear hpre hO hb
    by_cases hgt : 2 ≤ m
    · obtain ⟨b1, b2, b3⟩ := frontN_bounds hgt
      have hF := hid (fun W => hFr.out m hgt (by omega) W)
      have hge := hid (fun h => turnsL_ge (m := m) (i := j) hgt h)
      have hlt := hid (fun h => turnsL_lt (m := m) (i := j) hgt h)
      have hmi : (m : Int) > 1 := by omega
      have B1 := hid b1
      have B2 := hid b2
      have HM := hid hgt
      have HNM := hid hnm
      have HJM := hid hjm
      have hn256 : n ≤ 256 := by omega
      have hm256 : (m : Int) ≤ 256 := by omega
      have hj256 : (j : Int) ≤ 256 := by omega
      have hf256 : (frontN m : Int) ≤ 256 := by omega
      generalize frontN m = f at *
      clear b1 b2 b3 hgt hnm hjm hm1
      by_cases hc : f ≤ j
      · have hcH := hid hc
        have hci : (j : Int) ≥ (f : Int) := by omega
        rw [hge.out hc] at HPre
        go_wp2_with (first
          | ((with_reducible refine (hF.out _).mono ?_); rintro e v1 ⟨rfl, hv⟩; subst hv)
          | (at_builtin; have hba := below_alloc1 v1 (.cells #[.bool true] 4); have hO1 := HO.out.below hba; have hlo := (HB.out.trans (hba.mono HB.out.size)).size; have hrl := hid (fun g h => (HO.out.row_lt g h).1); have hB1 := hid (HB.out.trans (hba.mono HB.out.size)); go_loud (refine wpList_app _ rfl _ _ _ rfl w.heap.size 4 i0 _ 1 1 Tryd.underlying45 hi0 hz0 hz1 hz2 rfl (by omega) D n c _ rfl hO1 _ 1 1 0 [.bool true] rfl ((Rd.lit v1 4 1 [.bool true] rfl).low (Nat.zero_le _)) (by simp [Value.oneCell']) (by simp only [maxLen]; omega) (by omega) hlo ?_); intro D2 c2 v2 hO2 hg2 hat))
        exact ⟨⟨m - f, j - f, D2, n + 1, c2, pre ++ [true], by have := B2.out; go_num, by have := hcH.out; go_num, rfl, by have := B2.out; omega, by have := HNM.out; have := B1.out; omega, by have := HJM.out; have := hcH.out; omega, by rw [← HPre.out]; simp, by simpa using hO2, hB1.out.grown hg2 hB1.out.size (fun g e => hrl.out g e)⟩, by have := B1.out; have := B2.out; simp [intOf]; omega⟩
      · have hcH := hid hc
        have hci : ¬ (j : Int) ≥ (f : Int) := by omega
        rw [hlt.out hc] at HPre
        go_wp2_with (first
          | ((with_reducible refine (hF.out _).mono ?_); rintro e v1 ⟨rfl, hv⟩; subst hv)
          | (at_builtin; have hba := below_alloc1 v1 (.cells #[.bool false] 4); have hO1 := HO.out.below hba; have hlo := (HB.out.trans (hba.mono HB.out.size)).size; have hrl := hid (fun g h => (HO.out.row_lt g h).1); have hB1 := hid (HB.out.trans (hba.mono HB.out.size)); go_loud (refine wpList_app _ rfl _ _ _ rfl w.heap.size 4 i0 _ 1 1 Tryd.underlying45 hi0 hz0 hz1 hz2 rfl (by omega) D n c _ rfl hO1 _ 1 1 0 [.bool false] rfl ((Rd.lit v1 4 1 [.bool false] rfl).low (Nat.zero_le _)) (by simp [Value.oneCell']) (by simp only [maxLen]; omega) (by omega) hlo ?_); intro D2 c2 v2 hO2 hg2 hat))
        exact ⟨⟨f, j, D2, n + 1, c2, pre ++ [false], rfl, rfl, rfl, B1.out, by have := HNM.out; have := B2.out; omega, by have := hcH.out; omega, by rw [← HPre.out]; simp, by simpa using hO2, hB1.out.grown hg2 hB1.out.size (fun g e => hrl.out g e)⟩, by have := B2.out; simp [intOf]; omega⟩
    · obtain rfl : m = 1 := by omega
      rw [turnsL_one (by omega), List.append_nil] at HPre
      have hn256 : n ≤ 1000 := by omega
      have hPr := HPre.out
      subst hPr
      go_wp2_with ((with_reducible refine (hRv.out D n c _ _ HO.out hn256).mono ?_); rintro e v1 ⟨⟨z, rfl⟩, hO1, hC1⟩)
      go_ret
      exact ⟨D, n, c, rfl, hO1, HB.out.trans (hC1.below HB.out.size (fun b e => (HO.out.row_lt b e).1))⟩
end Go.Proofs.YtheljogmnalbmaaDoor
