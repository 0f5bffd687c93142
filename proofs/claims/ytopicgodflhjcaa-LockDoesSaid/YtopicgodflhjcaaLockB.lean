/-
  Contracts of lock's Check, asked, Ahead. No condition beyond those each theorem names.
-/
import Derived.Test.YtopicgodflhjcaaLockA
namespace Go.Proofs.Ytopicgodflhjcaa
open Go.RowKit Go.Shelf
attribute [local go_sem] Oper.semAt_some

theorem keeps_below {W W' : World} (h : Below W.heap.size W W') : KeepsOthers W W' := ⟨h.size, fun k _ hk _ => (h.block k (lt_block hk)).trans hk⟩
/-- The error of a bool. -/
def errOf (b : Bool) : Int := if b then 0 else 8
/-- Is the k-th a task, and stands it nowhere ahead? -/
def okNth (o : Int) (ws : List Int) (p : Int × Nat) : Bool := taskB p.1 && (fnd (allL o ws) p.1 == (p.2 : Int))
/-- May a lock be? -/
def mayL (o : Int) (ws : List Int) : Bool := (!(o == 0) || ws.isEmpty) && (upto (nth o ws) (howMany o ws)).all (okNth o ws)

set_option maxHeartbeats 1000000 in
theorem check_bad1 (A : Option Addr) (len cap : Nat) (w : World) (hl : 0 < len) :
    Calls Try.prog 10 #[.agg #[.int .i64 0, .slice A len cap]] w fun e w' => e = .returned (.int .i64 8) ∧ Below w.heap.size w w' := by
  go_enter Try.func10, Try.ntmps10
  go_wp2
  exact bodyPost_ret (v := .int .i64 8) (by simp [results, Try.f10, go_sem]) rfl ⟨rfl, ((Below.refl _ _).alloc (Nat.le_refl _) _).alloc (by simp) _⟩
set_option maxHeartbeats 1000000 in
theorem check_bad2 (o : Int) (ho : (o == 0) = false) (A : Option Addr) (len cap : Nat) (w : World) (ht : taskB o = false) :
    Calls Try.prog 10 #[.agg #[.int .i64 o, .slice A len cap]] w fun e w' => e = .returned (.int .i64 8) ∧ Below w.heap.size w w' := by
  have ho' : (o != 0) = true := by simp [bne, ho]
  have HT := hid (fun W => task_any o W)
  rw [ht] at HT
  clear ht
  go_enter Try.func10, Try.ntmps10
  go_wp2_with ((with_reducible refine (HT.out _).mono ?_); rintro e w' ⟨rfl, rfl⟩)
  exact bodyPost_ret (v := .int .i64 8) (by simp [results, Try.f10, go_sem]) rfl ⟨rfl, ((Below.refl _ _).alloc (Nat.le_refl _) _).alloc (by simp) _⟩
set_option maxRecDepth 100000 in
set_option maxHeartbeats 2000000 in
theorem check_loop (o : Int) (ho : (o == 0) = false) (A : Option Addr) (len cap : Nat) (ws : List Int) (w : World) (hlen : len ≤ 1000) (hR : Rd w 0 1 A len (ws.map iv)) (ht : taskB o = true) :
    Calls Try.prog 10 #[.agg #[.int .i64 o, .slice A len cap]] w fun e w' => e = .returned (.int .i64 (errOf (mayL o ws))) ∧ Below w.heap.size w w' := by
  have ho' : (o != 0) = true := by simp [bne, ho]
  have HT := hid (fun W => task_any o W)
  rw [ht] at HT
  have HZ : Hid ((!(o == 0) || ws.isEmpty) = true) := hid (by rw [ho]; rfl)
  refine (callsIn_wide (n := 3)).1 ?_
  refine callsIn_of_wp_marks Try.func10 rfl trivial ?_ rfl
  simp only [Try.ntmps10, List.size_toArray, List.length_cons, List.length_nil, Nat.reduceAdd, Nat.reduceSub, Array.replicate_succ, Array.replicate_zero, List.push_toArray, List.append_toArray, List.nil_append, List.cons_append]
  gi_wp2_with (refine ⟨trivial, ?_⟩; first
    | (gi_at_call 26; refine (callsIn_wide.2 (HT.out _)).mono ?_; rintro e w' ⟨rfl, rfl⟩)
    | (gi_at_call 27; refine (all_in Fence.wide _ trivial rfl _ _ _ A len cap rfl).mono ?_; rintro e w' ⟨rfl, rfl⟩))
  obtain ⟨w1, hw1⟩ : ∃ w1, w.alloc (.cells #[.int .i64 o, .slice A len cap] 24) = w1 := ⟨_, rfl⟩
  rw [hw1]
  have hs1 : w1.heap.size = w.heap.size + 1 := by rw [← hw1]; simp
  obtain ⟨w2, hw2⟩ : ∃ w2, w1.alloc (.cells #[.int .i64 0] 25) = w2 := ⟨_, rfl⟩
  rw [hw2]
  have hs2 : w2.heap.size = w.heap.size + 2 := by rw [← hw2]; simp [hs1]
  obtain ⟨w3, hw3⟩ : ∃ w3, w2.alloc (.cells #[.int .i64 o, .slice A len cap] 24) = w3 := ⟨_, rfl⟩
  rw [hw3]
  have hs3 : w3.heap.size = w.heap.size + 3 := by rw [← hw3]; simp [hs2]
  have hb1 : Below w.heap.size w w1 := by rw [← hw1]; exact below_alloc1 w _
  have hb2 : Below w.heap.size w w2 := by rw [← hw2]; exact hb1.alloc hb1.size _
  have hb3 : Below w.heap.size w w3 := by rw [← hw3]; exact hb2.alloc hb2.size _
  have bX : Blk w3 w.heap.size 24 #[.int .i64 o, .slice A len cap] := by
    rw [← hw3, ← hw2, ← hw1]; exact ((Blk.new w _ _).alloc _).alloc _
  have bR : Blk w3 (w.heap.size + 1) 25 #[.int .i64 0] := by
    rw [← hw3, ← hw2]; have h := Blk.new w1 25 #[.int .i64 0]; rw [hs1] at h; exact h.alloc _
  have bL : Blk w3 (w.heap.size + 2) 24 #[.int .i64 o, .slice A len cap] := by
    rw [← hw3]; have h := Blk.new w2 24 #[.int .i64 o, .slice A len cap]; rw [hs2] at h; exact h
  have hR3 := hR.below hb3
  clear hw1 hw2 hw3
  have hF := hid (fun (x : Int) (W : World) (hB : Below w.heap.size w W) => find_any o x A len cap ws W hlen (hR.below hB))
  refine wpIn_rangeFunc_ownG rfl (by omega) (gf := 34) (lb := #[.pointer (some ⟨w.heap.size + 1 + 1, 0, none⟩)]) rfl trivial (enters_of Try.func34 (by kernel_rfl) rfl)
    (all_stops Fence.wide _ trivial rfl (by omega) (w.heap.size + 2) len cap o ws A w3 hlen (bL.cellv rfl) (bL.cellv rfl) hR3) belowK_t (belowK_b (by omega)) (Below.refl _ _) (fun _ => rfl)
    (fun pre W => ((∀ p ∈ pre, okNth o ws p = true) ∧ W.cell? ⟨w.heap.size, 0, none⟩ = some (.int .i64 o) ∧ W.cell? ⟨w.heap.size, 1, none⟩ = some (.slice A len cap) ∧ W.cell? ⟨w.heap.size + 1, 0, none⟩ = some (.int .i64 0) ∧ W.frozen? ⟨w.heap.size + 1, 0, none⟩ = false) ∧ Below w3.heap.size w3 W)
    (fun c pre W => (c = .ret ∧ (∃ p ∈ pre, okNth o ws p = false) ∧ W.cell? ⟨w.heap.size + 1, 0, none⟩ = some (.int .i64 8)) ∧ Below w.heap.size w W)
    (OwnFrom.and (Own.from (fun s A B row hs hg hr => ⟨hs.1, cell_kept hs.2.1 hg hr, cell_kept hs.2.2.1 hg hr, cell_kept hs.2.2.2.1 hg hr, (frozen_kept hs.2.2.2.1 hg hr).trans hs.2.2.2.2⟩) _) (ownFrom_below (Nat.le_refl _) (Nat.le_refl _)))
    (fun c => OwnFrom.and (Own.from (fun s A B row hs hg hr => ⟨hs.1, hs.2.1, cell_kept hs.2.2 hg hr⟩) _) (ownFrom_below (Nat.le_refl _) (by omega)))
    ⟨⟨by simp, bX.cellv rfl, bX.cellv rfl, bR.cellv rfl, bR.frozen 0⟩, Below.refl _ _⟩
    (fun p => { tmps := #[.agg #[.int .i64 o, .slice A len cap], .pointer (some ⟨w.heap.size, 0, none⟩), .pointer (some ⟨w.heap.size + 1, 0, none⟩), .int .i64 p.1, .int .i64 (p.2 : Int), .pointer (some ⟨w.heap.size, 0, none⟩), .int .i64 o, .bool false, .bool false, undef, undef, undef, undef, .bool false, .bool false, .pointer (some ⟨w.heap.size, 0, none⟩), .int .i64 o, .bool true, .bool true, .pointer (some ⟨w.heap.size, 0, none⟩), .int .i64 o, .bool true, .bool false, .bool false, .bool false, .agg #[.int .i64 o, .slice A len cap], .func (.func 34) #[] #[.pointer (some ⟨w.heap.size + 1 + 1, 0, none⟩)], .int .i64 p.1, .int .i64 (p.2 : Int), undef, undef, undef, undef, undef, undef, undef, undef, undef, undef], defers := [] }) ?assign ?body ?done ?stop
  case assign =>
    intro l p W K hK
    gi_wp2
    exact hK
  case body =>
    rintro l pre p W ⟨⟨hp, h0, h1, hcr, hfr⟩, hB3⟩ _
    have hB := hb3.trans (hB3.mono (by omega))
    have hT := hid (task_any p.1)
    have hFp := hid (hF.out p.1 W hB)
    have hok : okNth o ws p = (taskB p.1 && (fnd (allL o ws) p.1 == (p.2 : Int))) := rfl
    have HK := hid hok
    generalize hq1 : taskB p.1 = q1 at *
    generalize hq2 : fnd (allL o ws) p.1 = z at *
    clear hok hq1 hq2
    cases q1
    · gi_wp2_with (refine ⟨trivial, ?_⟩; gi_at_call 26; refine (CallsIn.inRound l (callsIn_wide.2 (hT.out _))).mono ?_; rintro e w' ⟨rfl, rfl⟩)
      refine ⟨trivial, ?_⟩
      gi_wp2
      exact ⟨(KeepsOthers.setCell _ _ _).from _, ⟨rfl, ⟨p, by simp, HK.out⟩, World.cell?_setCell_same' _ _ _ (by rw [hcr]; rfl)⟩, hB.setCell (p := ⟨w.heap.size + 1, 0, none⟩) (by simp) _⟩
    · gi_wp2_with (refine ⟨trivial, ?_⟩; first
        | (gi_at_call 26; refine (CallsIn.inRound l (callsIn_wide.2 (hT.out _))).mono ?_; rintro e w' ⟨rfl, rfl⟩)
        | (gi_at_call 24; refine (CallsIn.inRound l (callsIn_wide.2 hFp.out)).mono ?_; rintro e w9 ⟨rfl, hb9⟩; have g0 := (hb9.cell (p := ⟨w.heap.size + 1, 0, none⟩) (cell_lt hcr)).trans hcr; have g1 := (hb9.frozen (p := ⟨w.heap.size + 1, 0, none⟩) (cell_lt hcr)).trans hfr))
      · have hx : (z != (p.2 : Int)) = true := by assumption
        exact ⟨((keeps_below hb9).trans (KeepsOthers.setCell _ _ _)).from _, ⟨rfl, ⟨p, by simp, by rw [HK.out]; simpa [bne] using hx⟩, World.cell?_setCell_same' _ _ _ (by rw [g0]; rfl)⟩, (hB.trans (hb9.mono hB.size)).setCell (p := ⟨w.heap.size + 1, 0, none⟩) (by simp) _⟩
      · have hx : (z != (p.2 : Int)) = false := by assumption
        have k0 := (hb9.cell (p := ⟨w.heap.size, 0, none⟩) (cell_lt h0)).trans h0
        have k1 := (hb9.cell (p := ⟨w.heap.size, 1, none⟩) (cell_lt (a := ⟨w.heap.size, 1, none⟩) h1)).trans h1
        exact ⟨(keeps_below hb9).from _, hb9.mono hB3.size, ⟨fun q hq => (List.mem_append.1 hq).elim (hp q) (fun e => by simp at e; subst e; rw [HK.out]; simpa [bne] using hx), k0, k1, g0, g1⟩, hB3.trans (hb9.mono hB3.size)⟩
  case done =>
    rintro D ys W hD rfl ⟨⟨hall, h0, h1, hcr, hfr⟩, hB3⟩ hK
    have hB := hb3.trans (hB3.mono (by omega))
    gi_wp2
    have hK' := (KeepsOthers.setCell W ⟨w.heap.size + 1, 0, none⟩ (.int .i64 0)).same D _ hK rfl
    refine ⟨by simp, .inl ⟨_, _, rfl, run_takeDeferred hK', ?_⟩⟩
    have hc5 := cell_kept (World.cell?_setCell_same' W ⟨w.heap.size + 1, 0, none⟩ (.int .i64 0) (by rw [hcr]; rfl)) (grownBy_putObj' _ D (.deferred none)) (fun r e => by cases e; exact ⟨_, hK', rfl⟩)
    have hm : mayL o ws = true := by
      unfold mayL
      rw [Bool.and_eq_true, List.all_eq_true]
      exact ⟨HZ.out, fun p hp => hall p hp⟩
    rw [hm]
    refine ⟨.int .i64 0, ?_, rfl, (hB.setCell (p := ⟨w.heap.size + 1, 0, none⟩) (by simp) _).trans (belowK_b (w := w) (Nat.le_refl _) _ D _ _ (by omega) hK' rfl rfl)⟩
    simp [results, Try.f10, go_sem, hc5]
  case stop =>
    rintro D c pre W hD ⟨k, hk, rfl⟩ ⟨⟨rfl, ⟨p, hp, hno⟩, hcr⟩, hB⟩ hK
    gi_wp2
    refine ⟨by simp, .inl ⟨_, _, rfl, run_takeDeferred hK, ?_⟩⟩
    have hc5 := cell_kept hcr (grownBy_putObj' _ D (.deferred none)) (fun r e => by cases e; exact ⟨_, hK, rfl⟩)
    have hm : mayL o ws = false := by
      unfold mayL
      rw [Bool.and_eq_false_iff]
      right
      rw [List.all_eq_false]
      simp only [upto, List.mem_map, List.mem_range] at hp
      obtain ⟨i, hi, rfl⟩ := hp
      exact ⟨_, mem_upto (nth o ws) _ i (by omega), by rw [hno]; simp⟩
    rw [hm]
    refine ⟨.int .i64 8, ?_, rfl, hB.trans (belowK_b (w := w) (Nat.le_refl _) W D _ _ (by omega) hK rfl rfl)⟩
    simp [results, Try.f10, go_sem, hc5]
set_option maxRecDepth 100000 in
set_option maxHeartbeats 2000000 in
theorem check_zero (A : Option Addr) (cap : Nat) (w : World) :
    Calls Try.prog 10 #[.agg #[.int .i64 0, .slice A 0 cap]] w fun e w' => e = .returned (.int .i64 (errOf (mayL 0 []))) ∧ Below w.heap.size w w' := by
  have hR : Rd w 0 1 A 0 (([] : List Int).map iv) := Rd.nil w 0 1 A
  have HZ : Hid ((!((0 : Int) == 0) || ([] : List Int).isEmpty) = true) := hid rfl
  refine (callsIn_wide (n := 3)).1 ?_
  refine callsIn_of_wp_marks Try.func10 rfl trivial ?_ rfl
  simp only [Try.ntmps10, List.size_toArray, List.length_cons, List.length_nil, Nat.reduceAdd, Nat.reduceSub, Array.replicate_succ, Array.replicate_zero, List.push_toArray, List.append_toArray, List.nil_append, List.cons_append]
  gi_wp2
  refine ⟨trivial, ?_⟩
  gi_wp2_with (refine ⟨trivial, ?_⟩; first
    | (gi_at_call 27; refine (all_in Fence.wide _ trivial rfl _ _ _ A 0 cap rfl).mono ?_; rintro e w' ⟨rfl, rfl⟩))
  obtain ⟨w1, hw1⟩ : ∃ w1, w.alloc (.cells #[.int .i64 0, .slice A 0 cap] 24) = w1 := ⟨_, rfl⟩
  rw [hw1]
  have hs1 : w1.heap.size = w.heap.size + 1 := by rw [← hw1]; simp
  obtain ⟨w2, hw2⟩ : ∃ w2, w1.alloc (.cells #[.int .i64 0] 25) = w2 := ⟨_, rfl⟩
  rw [hw2]
  have hs2 : w2.heap.size = w.heap.size + 2 := by rw [← hw2]; simp [hs1]
  obtain ⟨w3, hw3⟩ : ∃ w3, w2.alloc (.cells #[.int .i64 0, .slice A 0 cap] 24) = w3 := ⟨_, rfl⟩
  rw [hw3]
  have hs3 : w3.heap.size = w.heap.size + 3 := by rw [← hw3]; simp [hs2]
  have hb1 : Below w.heap.size w w1 := by rw [← hw1]; exact below_alloc1 w _
  have hb2 : Below w.heap.size w w2 := by rw [← hw2]; exact hb1.alloc hb1.size _
  have hb3 : Below w.heap.size w w3 := by rw [← hw3]; exact hb2.alloc hb2.size _
  have bX : Blk w3 w.heap.size 24 #[.int .i64 0, .slice A 0 cap] := by
    rw [← hw3, ← hw2, ← hw1]; exact ((Blk.new w _ _).alloc _).alloc _
  have bR : Blk w3 (w.heap.size + 1) 25 #[.int .i64 0] := by
    rw [← hw3, ← hw2]; have h := Blk.new w1 25 #[.int .i64 0]; rw [hs1] at h; exact h.alloc _
  have bL : Blk w3 (w.heap.size + 2) 24 #[.int .i64 0, .slice A 0 cap] := by
    rw [← hw3]; have h := Blk.new w2 24 #[.int .i64 0, .slice A 0 cap]; rw [hs2] at h; exact h
  have hR3 := hR.below hb3
  clear hw1 hw2 hw3
  refine wpIn_rangeFunc_ownG rfl (by omega) (gf := 34) (lb := #[.pointer (some ⟨w.heap.size + 1 + 1, 0, none⟩)]) rfl trivial (enters_of Try.func34 (by kernel_rfl) rfl)
    (all_stops Fence.wide _ trivial rfl (by omega) (w.heap.size + 2) 0 cap 0 [] A w3 (by omega) (bL.cellv rfl) (bL.cellv rfl) hR3) belowK_t (belowK_b (by omega)) (Below.refl _ _) (fun _ => rfl)
    (fun pre W => ((∀ p ∈ pre, okNth 0 [] p = true) ∧ W.cell? ⟨w.heap.size, 0, none⟩ = some (.int .i64 0) ∧ W.cell? ⟨w.heap.size, 1, none⟩ = some (.slice A 0 cap) ∧ W.cell? ⟨w.heap.size + 1, 0, none⟩ = some (.int .i64 0) ∧ W.frozen? ⟨w.heap.size + 1, 0, none⟩ = false) ∧ Below w3.heap.size w3 W)
    (fun c pre W => (c = .ret ∧ (∃ p ∈ pre, okNth 0 [] p = false) ∧ W.cell? ⟨w.heap.size + 1, 0, none⟩ = some (.int .i64 8)) ∧ Below w.heap.size w W)
    (OwnFrom.and (Own.from (fun s A B row hs hg hr => ⟨hs.1, cell_kept hs.2.1 hg hr, cell_kept hs.2.2.1 hg hr, cell_kept hs.2.2.2.1 hg hr, (frozen_kept hs.2.2.2.1 hg hr).trans hs.2.2.2.2⟩) _) (ownFrom_below (Nat.le_refl _) (Nat.le_refl _)))
    (fun c => OwnFrom.and (Own.from (fun s A B row hs hg hr => ⟨hs.1, hs.2.1, cell_kept hs.2.2 hg hr⟩) _) (ownFrom_below (Nat.le_refl _) (by omega)))
    ⟨⟨by simp, bX.cellv rfl, bX.cellv rfl, bR.cellv rfl, bR.frozen 0⟩, Below.refl _ _⟩
    (fun p => { tmps := #[.agg #[.int .i64 0, .slice A 0 cap], .pointer (some ⟨w.heap.size, 0, none⟩), .pointer (some ⟨w.heap.size + 1, 0, none⟩), .int .i64 p.1, .int .i64 (p.2 : Int), .pointer (some ⟨w.heap.size, 0, none⟩), .int .i64 0, .bool true, .bool true, .pointer (some ⟨w.heap.size, 1, none⟩), .slice A 0 cap, .int .i64 0, .bool false, .bool false, .bool false, .pointer (some ⟨w.heap.size, 0, none⟩), .int .i64 0, .bool false, .bool false, undef, undef, undef, undef, .bool false, .bool false, .agg #[.int .i64 0, .slice A 0 cap], .func (.func 34) #[] #[.pointer (some ⟨w.heap.size + 1 + 1, 0, none⟩)], .int .i64 p.1, .int .i64 (p.2 : Int), undef, undef, undef, undef, undef, undef, undef, undef, undef, undef], defers := [] }) ?assign ?body ?done ?stop
  case assign =>
    intro l p W K hK
    gi_wp2
    exact hK
  case body =>
    rintro l pre p W _ hlt
    exact absurd hlt (Nat.not_lt_zero _)
  case done =>
    rintro D ys W hD rfl ⟨⟨hall, h0, h1, hcr, hfr⟩, hB3⟩ hK
    have hB := hb3.trans (hB3.mono (by omega))
    gi_wp2
    have hK' := (KeepsOthers.setCell W ⟨w.heap.size + 1, 0, none⟩ (.int .i64 0)).same D _ hK rfl
    refine ⟨by simp, .inl ⟨_, _, rfl, run_takeDeferred hK', ?_⟩⟩
    have hc5 := cell_kept (World.cell?_setCell_same' W ⟨w.heap.size + 1, 0, none⟩ (.int .i64 0) (by rw [hcr]; rfl)) (grownBy_putObj' _ D (.deferred none)) (fun r e => by cases e; exact ⟨_, hK', rfl⟩)
    have hm : mayL 0 [] = true := by
      unfold mayL
      rw [Bool.and_eq_true, List.all_eq_true]
      exact ⟨HZ.out, fun p hp => hall p hp⟩
    rw [hm]
    refine ⟨.int .i64 0, ?_, rfl, (hB.setCell (p := ⟨w.heap.size + 1, 0, none⟩) (by simp) _).trans (belowK_b (w := w) (Nat.le_refl _) _ D _ _ (by omega) hK' rfl rfl)⟩
    simp [results, Try.f10, go_sem, hc5]
  case stop =>
    rintro D c pre W hD ⟨k, hk, rfl⟩ ⟨⟨rfl, ⟨p, hp, hno⟩, hcr⟩, hB⟩ hK
    gi_wp2
    refine ⟨by simp, .inl ⟨_, _, rfl, run_takeDeferred hK, ?_⟩⟩
    have hc5 := cell_kept hcr (grownBy_putObj' _ D (.deferred none)) (fun r e => by cases e; exact ⟨_, hK, rfl⟩)
    have hm : mayL 0 [] = false := by
      unfold mayL
      rw [Bool.and_eq_false_iff]
      right
      rw [List.all_eq_false]
      simp only [upto, List.mem_map, List.mem_range] at hp
      obtain ⟨i, hi, rfl⟩ := hp
      exact ⟨_, mem_upto (nth 0 []) _ i (by omega), by rw [hno]; simp⟩
    rw [hm]
    refine ⟨.int .i64 8, ?_, rfl, hB.trans (belowK_b (w := w) (Nat.le_refl _) W D _ _ (by omega) hK rfl rfl)⟩
    simp [results, Try.f10, go_sem, hc5]

theorem check_any (o : Int) (A : Option Addr) (len cap : Nat) (ws : List Int) (w : World) (hlen : len ≤ 1000) (hR : Rd w 0 1 A len (ws.map iv)) :
    Calls Try.prog 10 #[.agg #[.int .i64 o, .slice A len cap]] w fun e w' => e = .returned (.int .i64 (errOf (mayL o ws))) ∧ Below w.heap.size w w' := by
  have hl : ws.length = len := by simpa using hR.1
  by_cases ho : o = 0
  · subst ho
    cases ws with
    | nil =>
      obtain rfl : 0 = len := hl
      exact check_zero A cap w
    | cons x xs =>
      have : mayL 0 (x :: xs) = false := by unfold mayL; simp
      rw [this]
      exact check_bad1 A len cap w (by rw [← hl]; simp)
  · have ho' : (o == 0) = false := by simpa using ho
    by_cases ht : taskB o = true
    · exact check_loop o ho' A len cap ws w hlen hR ht
    · have hm : mayL o ws = false := by
        unfold mayL
        rw [Bool.and_eq_false_iff]
        right
        rw [List.all_eq_false]
        refine ⟨nth o ws 0, mem_upto (nth o ws) _ 0 (by unfold howMany; rw [if_neg ho]; omega), ?_⟩
        simp [okNth, nth, ht]
      rw [hm]
      exact check_bad2 o ho' A len cap w (by simpa using ht)
end Go.Proofs.Ytopicgodflhjcaa
