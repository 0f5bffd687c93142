/-
  Contract of slices.Delete of one subscriber, in a slice of the call's own. No condition beyond those each theorem names.
-/
import Derived.Test.YtmepbokoopgmiaaDoorHubC
import Derived.Deep.RegionLaw
import Derived.Lib.SliceRun
namespace Go.Proofs.YtmepbokoopgmiaaDoor
open Go.RowKit
set_option linter.unusedSimpArgs false
set_option linter.unusedVariables false

theorem setCells_list (b : Nat) (t : TypeId) (fr : Nat × Nat) : ∀ (vs : List Value) (o : Nat) (w : World) (cs : Array Value), w.heap[b]? = some (.cells cs t fr) → o + vs.length ≤ cs.size →
    (w.setCells b o vs).heap[b]? = some (.cells (cs.toList.take o ++ (vs ++ cs.toList.drop (o + vs.length))).toArray t fr)
  | [], o, w, cs, h, hl => by
    show w.heap[b]? = _
    rw [h]
    simp
  | v :: vs, o, w, cs, h, hl => by
    simp only [List.length_cons] at hl
    have h1 : (w.setCell ⟨b, o, none⟩ v).heap[b]? = some (.cells (cs.setIfInBounds o v) t fr) := by simp [World.setCell, Array.getElem?_modify, h]
    have ih := setCells_list b t fr vs (o + 1) _ _ h1 (by simp; omega)
    have hlen : o < cs.toList.length := by simp; omega
    have e1 : (cs.setIfInBounds o v).toList = cs.toList.set o v := by simp
    have e2 : o - (List.take o cs.toList).length = 0 := by rw [List.length_take]; omega
    have key : List.take (o + 1) (cs.setIfInBounds o v).toList ++ (vs ++ List.drop (o + 1 + vs.length) (cs.setIfInBounds o v).toList) = List.take o cs.toList ++ (v :: vs ++ List.drop (o + (v :: vs).length) cs.toList) := by
      rw [e1, List.take_set, List.drop_set, if_pos (by omega), List.length_cons, show o + (vs.length + 1) = o + 1 + vs.length by omega, List.take_succ_eq_append_getElem hlen, List.set_append_right _ _ (by simp; omega), e2, List.set_cons_zero, List.append_assoc]
      rfl
    rw [key] at ih
    exact ih
theorem run_clear_row {P : Program} (w : World) (t e ty : TypeId) (z : Value) (ht : P.underlying t = some (.slice e)) (hv : ∀ w, (zeroValue e).run P w = .ok z w) (h1 : ∀ v ∈ z.cells, v.oneCell' = true) (hz : 0 < z.cells.size) (b o n c : Nat) (hn : 0 < n)
    (hc : ∀ j, j < n * z.cells.size → (w.cell? ⟨b, o + j, none⟩).isSome = true) (hf : ∀ j, j < n * z.cells.size → w.frozen? ⟨b, o + j, none⟩ = false) :
    (Builtin.clear_ #[t] ty #[.slice (some ⟨b, o, none⟩) n c]).run P w = .ok (.tuple #[]) (w.setCells b o (Builtin.zeroCells z.cells n).toList) := by
  have hl : (Builtin.zeroCells z.cells n).toList.length = n * z.cells.size := by rw [Array.length_toList, size_zeroCells]
  have hst := run_storeCells_cells (P := P) b o (Builtin.zeroCells z.cells n).toList 0 w (fun j hj => by rw [Nat.add_zero]; exact hc j (by omega)) (fun j hj => by rw [Nat.add_zero]; exact hf j (by omega)) (by
    intro v hv'
    obtain ⟨i, hi, rfl⟩ := List.getElem_of_mem hv'
    simp only [Builtin.zeroCells, Array.toList_map, List.getElem_map]
    refine h1 _ ?_
    rw [getElem!_pos z.cells _ (Nat.mod_lt _ hz)]
    exact Array.getElem_mem _)
  simp only [Nat.add_zero] at hst
  obtain ⟨m, rfl⟩ : ∃ m, n = m + 1 := ⟨n - 1, by omega⟩
  simp [Builtin.clear_, run_underlying ht, hv, hst]

/-- Moved to the left, in a slice of the call's own. -/
theorem own_erase {w : World} {lo g n d i : Nat} {rs : List RS} (h : Own w lo 53 4 (some ⟨g, 0, none⟩) n d (rssL rs)) (hi : i < n) :
    Own (w.setCells g (i * 4) ((rssL rs).drop ((i + 1) * 4))) lo 53 4 (some ⟨g, 0, none⟩) (n - 1) d (rssL (rs.eraseIdx i)) := by
  have hl := h.len
  rcases h with ⟨h0, _⟩ | ⟨g', cur, e, hlo, hg, hnd, hm, hs, ht⟩
  · omega
  · cases e
    have hdl : ((rssL rs).drop ((i + 1) * 4)).length = (n - 1 - i) * 4 := by rw [List.length_drop, hl]; omega
    have hB := setCells_list g 53 (0, 0) ((rssL rs).drop ((i + 1) * 4)) (i * 4) w cur hg (by rw [hdl, hs]; omega)
    refine .inr ⟨g, _, rfl, hlo, hB, by omega, hm, ?_, ?_⟩
    · simp only [List.size_toArray, List.length_append, List.length_take, List.length_drop, Array.length_toList, hl, hs]
      omega
    · have h1 : (cur.toList.take (i * 4)) = (rssL rs).take (i * 4) := by
        rw [← ht, List.take_take, Nat.min_eq_left (by omega)]
      simp only
      rw [h1, ← List.append_assoc, List.take_left' (by rw [List.length_append, List.length_take, hdl, hl]; omega), ← rssL_take, ← rssL_drop, ← rssL_app, List.eraseIdx_eq_take_drop_succ]
theorem own_after {w : World} {lo g n d o : Nat} {xs vs : List Value} {e : TypeId} {sz : Nat} (h : Own w lo e sz (some ⟨g, 0, none⟩) n d xs) (ho : n * sz ≤ o) (hv : o + vs.length ≤ d * sz) (hd : 0 < d) :
    Own (w.setCells g o vs) lo e sz (some ⟨g, 0, none⟩) n d xs := by
  rcases h with ⟨h0, h1, _⟩ | ⟨g', cur, e', hlo, hg, hnd, hm, hs, ht⟩
  · omega
  · cases e'
    have hB := setCells_list g e (0, 0) vs o w cur hg (by rw [hs]; omega)
    refine .inr ⟨g, _, rfl, hlo, hB, hnd, hm, ?_, ?_⟩
    · simp only [List.size_toArray, List.length_append, List.length_take, List.length_drop, Array.length_toList, hs]
      omega
    · simp only
      rw [List.take_append_of_le_length (by rw [List.length_take, Array.length_toList, hs]; omega), List.take_take, Nat.min_eq_left ho]
      exact ht
theorem setCells_chg (w : World) (g o : Nat) (vs : List Value) : Chg w (w.setCells g o vs) (fun b => b = g) := by
  obtain ⟨r1, r2, r3, r4⟩ := setCells_rest g vs o w
  exact ⟨r1, r2, r3, by omega, fun b _ hb => setCells_other g vs o w b hb⟩

set_option maxRecDepth 100000 in
set_option maxHeartbeats 4000000 in
theorem delete_any (g n d i : Nat) (lo : Nat) (rs : List RS) (w : World) (hO : Own w lo 53 4 (some ⟨g, 0, none⟩) n d (rssL rs)) (hi : i < n) :
    Calls Tryd.prog 32 #[.slice (some ⟨g, 0, none⟩) n d, .int .i64 i, .int .i64 ((i : Int) + 1)] w fun e w' => e = .returned (.slice (some ⟨g, 0, none⟩) (n - 1) d) ∧ Own w' lo 53 4 (some ⟨g, 0, none⟩) (n - 1) d (rssL (rs.eraseIdx i)) ∧ Chg w w' (fun b => b = g) := by
  obtain ⟨i0, hi0, hz0, hz1, hz2⟩ := info_parts sub_info
  have hl := hO.len
  have hnd := hO.cap.1
  have hdm := hO.cap.2
  unfold maxLen at hdm
  have hB : ∀ j, j < d * 4 → (w.cell? ⟨g, j, none⟩).isSome = true ∧ w.frozen? ⟨g, j, none⟩ = false := fun j hj => by
    rcases hO with ⟨h0, _⟩ | ⟨g', cur, e, hlo, hg, _, _, hs, _⟩
    · omega
    · cases e
      exact ⟨by rw [cell_of_row w g j cur _ (0, 0) hg, Array.getElem?_eq_getElem (by omega)]; rfl, frozen_of_row w g j cur _ hg⟩
  obtain ⟨news, hnews⟩ : ∃ news, news = (rssL rs).drop ((i + 1) * 4) := ⟨_, rfl⟩
  have hlen : news.length = (n - (i + 1)) * 4 := by rw [hnews, List.length_drop, hl]; omega
  obtain ⟨A, hA, hsrc⟩ : ∃ A : Addr, (if d = i + 1 then some (⟨g, 0, none⟩ : Addr) else some ⟨g, (i + 1) * 4, none⟩) = some A ∧ Hid (∀ t u, news[t]? = some u → w.drew.cell? (A.add t) = some u) := by
    by_cases h : d = i + 1
    · refine ⟨⟨g, 0, none⟩, by simp [h], fun t u hu => ?_⟩
      have h0 : news.length = 0 := by rw [hlen]; omega
      rw [List.length_eq_zero_iff.1 h0] at hu
      simp at hu
    · refine ⟨⟨g, (i + 1) * 4, none⟩, by simp [h], fun t u hu => ?_⟩
      have ht : t < (n - (i + 1)) * 4 := by
        have := (List.getElem?_eq_some_iff.1 hu).1
        omega
      rw [hnews, List.getElem?_drop] at hu
      obtain ⟨u', h1, h2, _⟩ := hO.at_ (k := (i + 1) * 4 + t) (by omega)
      rw [h1] at hu
      cases hu
      rw [add_lit]
      exact h2
  have s2 : Hid (∀ u ∈ news, u.oneCell' = true) := hid fun u hu => rssL_one rs u (by rw [hnews] at hu; exact List.mem_of_mem_drop hu)
  have s1 : Hid (news.length = (n - (i + 1)) * 4) := hid hlen
  have s3 : Hid (∀ t, t < news.length → (w.drew.cell? ⟨g, 0 + i * 4 + t, none⟩).isSome = true ∧ w.drew.frozen? ⟨g, 0 + i * 4 + t, none⟩ = false) := hid fun t ht => by
    rw [Nat.zero_add]
    exact hB _ (by omega)
  obtain ⟨W1, hW1⟩ : ∃ W1, W1 = w.drew.setCells g (0 + i * 4) news := ⟨_, rfl⟩
  have O1 : Own W1 lo 53 4 (some ⟨g, 0, none⟩) (n - 1) d (rssL (rs.eraseIdx i)) := by
    rw [hW1, hnews, Nat.zero_add]
    exact own_erase hO.drew hi
  have C1 : Chg w W1 (fun b => b = g) := by
    rw [hW1]
    exact (⟨rfl, rfl, rfl, Nat.le_refl _, fun _ _ _ => rfl⟩ : Chg w w.drew (fun b => b = g)).trans (setCells_chg _ _ _ _) (fun b e => e) (fun b _ e => e)
  have hB1 : ∀ j, j < d * 4 → (W1.cell? ⟨g, j, none⟩).isSome = true ∧ W1.frozen? ⟨g, j, none⟩ = false := fun j hj => by
    rw [hW1]
    exact ⟨World.isSome_setCells _ _ _ _ _ (hB j hj).1, (World.frozen?_setCells _ _ _ _ _).trans (hB j hj).2⟩
  have hcl : ∀ ty, (Builtin.clear_ #[22] ty #[.slice (some ⟨g, (i + (n - (i + 1))) * 4, none⟩) (n - (i + (n - (i + 1)))) (d - (i + (n - (i + 1))))]).run Tryd.prog W1 = .ok (.tuple #[]) (W1.setCells g ((i + (n - (i + 1))) * 4) (Builtin.zeroCells (Value.agg zeroS).cells (n - (i + (n - (i + 1))))).toList) := fun ty =>
    run_clear_row W1 _ _ ty (.agg zeroS) Tryd.underlying22 zeroS_run (by intro v hv; exact rsL_one ((0, 0, [], false), none, 0, 0) v (by simpa [zeroS, rsL, Value.cells] using hv)) (by decide) g _ _ _ (by omega) (fun j hj => (hB1 _ (by have : (Value.agg zeroS).cells.size = 4 := rfl; rw [this] at hj; omega)).1) (fun j hj => (hB1 _ (by have : (Value.agg zeroS).cells.size = 4 := rfl; rw [this] at hj; omega)).2)
  have X1 := hid O1
  have X2 := hid C1
  have hW : Hid (W1 = w.drew.setCells g (0 + i * 4) news) := hid hW1
  have hin : i ≤ n := by omega
  have hid' : i ≤ d := by omega
  have hjd : i + 1 ≤ d := by omega
  have hjn : i + 1 ≤ n := by omega
  have k1 : (0 : Int) ≤ (i : Int) + 1 := by omega
  have k2 : (i : Int) + 1 ≤ (n : Int) := by omega
  have k3 : (0 : Int) ≤ (i : Int) := by omega
  have k4 : (i : Int) ≤ (n : Int) := by omega
  have k5 : (i : Int) ≤ (d : Int) := by omega
  have hij : ((i : Int) == (i : Int) + 1) = false := by rw [beq_eq_false_iff_ne]; omega
  clear hO hl hB hnews hlen hW1 O1 C1 hB1
  go_enter Tryd.func32, Tryd.ntmps32
  go_wp2_with fail
  go_region_law (refine step_append_room rfl (.tmp 22) (.tmp 25) 22 rfl 53 i0 4 Tryd.underlying22 hi0 hz1 g 0 i d (by simp [Act.eval, Act.put]) A (n - (i + 1)) (d - (i + 1)) news (by simp [Act.eval, Act.put, hA]) s1.out hsrc.out s2.out (by omega) s3.out ?_; rw [← hW.out])
  go_wp2_with fail
  go_ret
  have en : i + (n - (i + 1)) = n - 1 := by omega
  rw [en]
  have hvl : (Builtin.zeroCells zeroS (n - (n - 1))).toList.length = 4 := by
    rw [Array.length_toList, size_zeroCells, show n - (n - 1) = 1 by omega]
    rfl
  exact ⟨rfl, own_after X1.out (Nat.le_refl _) (by rw [hvl]; omega) (by omega), X2.out.trans (setCells_chg _ _ _ _) (fun b e => e) (fun b _ e => e)⟩
end Go.Proofs.YtmepbokoopgmiaaDoor
