/-
  Contracts of lock's task, all and all's iterator, find. No condition beyond those each theorem names.
-/
import Derived.Test.YtopicgodflhjcaaArr
import Derived.RangeFuncNested
import Derived.RangeFuncBound
import Derived.RangeFuncCalls
import Derived.RangeFuncLeaves
import Derived.RangeFuncBox
import Derived.Shelf.Abstract
import Derived.Shelf.RegionOpen
import Derived.OwnWalkIn
import Derived.TacticsInMore
import Derived.LoopNIn
import Derived.LoopIn
namespace Go.Proofs.Ytopicgodflhjcaa
open Go.RowKit Go.Shelf
attribute [local go_sem] Oper.semAt_some

/-- An int as a value. -/
def iv (x : Int) : Value := .int .i64 x
theorem iv_one (xs : List Int) : ∀ u ∈ xs.map iv, u.oneCell' = true := by
  intro u hu
  simp only [List.mem_map] at hu
  obtain ⟨b, _, rfl⟩ := hu
  rfl
/-- Is a number a task's? -/
def taskB (n : Int) : Bool := decide (1 ≤ n) && decide (n ≤ 16)

theorem task_any (n : Int) (w : World) : Calls Try.prog 26 #[.int .i64 n] w fun e w' => e = .returned (.bool (taskB n)) ∧ w = w' := by
  unfold taskB
  by_cases h1 : 1 ≤ n
  · rw [show decide (1 ≤ n) = true by simpa using h1]
    by_cases h2 : n ≤ 16
    · rw [show decide (n ≤ 16) = true by simpa using h2]
      go_enter Try.func26, Try.ntmps26
      go_wp2
      go_ret
      exact ⟨rfl, rfl⟩
    · rw [show decide (n ≤ 16) = false by simpa using h2]
      have h3 : 16 < n := by omega
      go_enter Try.func26, Try.ntmps26
      go_wp2
      go_ret
      exact ⟨rfl, rfl⟩
  · rw [show decide (1 ≤ n) = false by simpa using h1]
    have h3 : n < 1 := by omega
    go_enter Try.func26, Try.ntmps26
    go_wp2
    go_ret
    exact ⟨rfl, rfl⟩

/-- What has come when k rounds are over. -/
def upto {α : Type} (f : Nat → α) (k : Nat) : List α := (List.range k).map f
theorem upto_succ {α : Type} (f : Nat → α) (k : Nat) : upto f (k + 1) = upto f k ++ [f k] := by simp [upto, List.range_succ]
theorem upto_length {α : Type} (f : Nat → α) (k : Nat) : (upto f k).length = k := by simp [upto]
theorem mem_upto {α : Type} (f : Nat → α) (k i : Nat) (h : i < k) : f i ∈ upto f k := by
  simp only [upto, List.mem_map, List.mem_range]
  exact ⟨i, h, rfl⟩
/-- The k-th that comes: a task, and how many are ahead. -/
def nth (o : Int) (ws : List Int) (k : Nat) : Int × Nat := ((o :: ws)[k]?.getD 0, k)
/-- How many come. -/
def howMany (o : Int) (ws : List Int) : Nat := if o = 0 then 0 else ws.length + 1
theorem Rd.int {w : World} {lo n : Nat} {A : Option Addr} {xs : List Int} (h : Rd w lo 1 A n (xs.map iv)) {k : Nat} (hk : k < n) : ∃ b o, A = some ⟨b, o, none⟩ ∧ lo ≤ b ∧ w.cell? ⟨b, o + k, none⟩ = some (.int .i64 (xs[k]?.getD 0)) := by
  obtain ⟨b, o, u, hA, hlo, hu, hc⟩ := h.at_ hk
  refine ⟨b, o, hA, hlo, ?_⟩
  rw [hc, ← hu, List.getElem?_map]
  have : k < xs.length := by have := h.1; simp at this; omega
  rw [List.getElem?_eq_getElem this]
  rfl

set_option maxHeartbeats 1000000 in
theorem all_none (F : Fence) (n : Nat) (hf : F.fn 34) (hro : F.round = none) (l Bl : Nat) (J : List (Int × Nat) → World → Prop) (W : World) (h0 : W.cell? ⟨Bl, 0, none⟩ = some (.int .i64 0)) (hJ : J [] W) :
    CallsIn F n Try.prog 34 #[.func (.yield l) #[] #[], .pointer (some ⟨Bl, 0, none⟩)] W fun e W' => (∃ v, e = .returned v) ∧ J [] W' := by
  refine callsIn_of_wp Try.func34 rfl hf ?_ hro
  simp only [Try.ntmps34, List.size_toArray, List.length_cons, List.length_nil, Nat.reduceAdd, Nat.reduceSub, Array.replicate_succ, Array.replicate_zero, List.push_toArray, List.append_toArray, List.nil_append, List.cons_append]
  gi_wp2
  refine ⟨fun _ h => (by cases h), ?_⟩
  gi_wp2
  refine bodyPost_ret (results_none rfl _ _ _) rfl ?_
  exact ⟨⟨_, rfl⟩, hJ⟩

set_option maxRecDepth 100000 in
set_option maxHeartbeats 2000000 in
theorem all_some (F : Fence) (n : Nat) (hf : F.fn 34) (hro : F.round = none) (hn : 1 ≤ n) (l Bl len cap : Nat) (o : Int) (ho : (o == 0) = false) (ws : List Int) (A : Option Addr) (w0 : World) (hlen : len ≤ 1000) (J Jx : List (Int × Nat) → World → Prop)
    (hY : ∀ pre x W, J pre W → pre.length < len + 1 → YieldAt F (n - 1) Try.prog l #[.int .i64 x.1, .int .i64 (x.2 : Int)] W fun e W' =>
      (e = .returned (.bool true) ∧ J (pre ++ [x]) W' ∧ Below w0.heap.size W W') ∨ (e = .returned (.bool false) ∧ Jx (pre ++ [x]) W'))
    (W : World) (hb : Below w0.heap.size w0 W) (h0 : w0.cell? ⟨Bl, 0, none⟩ = some (.int .i64 o)) (h1 : w0.cell? ⟨Bl, 1, none⟩ = some (.slice A len cap)) (hR : Rd w0 0 1 A len (ws.map iv)) (hJ : J [] W) :
    CallsIn F n Try.prog 34 #[.func (.yield l) #[] #[], .pointer (some ⟨Bl, 0, none⟩)] W fun e W' => (∃ v, e = .returned v) ∧
      ((∃ ys, ys = upto (nth o ws) (len + 1) ∧ J ys W') ∨ (∃ pre, (∃ k, k ≤ len + 1 ∧ pre = upto (nth o ws) k) ∧ Jx pre W')) := by
  have hBl : Bl < w0.heap.size := cell_lt h0
  have hc0 : W.cell? ⟨Bl, 0, none⟩ = some (.int .i64 o) := (hb.cell (p := ⟨Bl, 0, none⟩) hBl).trans h0
  refine callsIn_of_wp Try.func34 rfl hf ?_ hro
  simp only [Try.ntmps34, List.size_toArray, List.length_cons, List.length_nil, Nat.reduceAdd, Nat.reduceSub, Array.replicate_succ, Array.replicate_zero, List.push_toArray, List.append_toArray, List.nil_append, List.cons_append]
  obtain ⟨f1, t1, a1, b1, hy1, hR1⟩ := hY [] (nth o ws 0) W hJ (by simp)
  have e0 : nth o ws 0 = (o, 0) := rfl
  rw [e0] at hy1 hR1
  dsimp only at hy1
  rw [show ((0 : Nat) : Int) = 0 from rfl] at hy1
  gi_wp2
  refine hR1.mono ?_
  rintro e W1 (⟨rfl, hJ1, hk1⟩ | ⟨rfl, hx1⟩)
  · have hb1 := hb.trans hk1
    have hc1 : W1.cell? ⟨Bl, 1, none⟩ = some (.slice A len cap) := (hb1.cell (p := ⟨Bl, 1, none⟩) hBl).trans h1
    gi_wp2
    gi_loopw [18] (fun i wr => ∃ k : Nat, k ≤ len ∧ i = .int .i64 k ∧ J (upto (nth o ws) (k + 1)) wr ∧ Below w0.heap.size w0 wr)
      (fun i _ => len - (intOf i).toNat)
    case atStart => exact ⟨0, Nat.zero_le _, rfl, hJ1, hb1⟩
    case round =>
      obtain ⟨k, hk, rfl, hJs, hnx⟩ := hrel
      by_cases hlt : k < len
      · obtain ⟨b, off, rfl, _, hcx⟩ := (hR.below hnx).int hlt
        obtain ⟨fn, tmps, assign, body, hy, hR'⟩ := hY _ (nth o ws (k + 1)) wr hJs (by rw [upto_length]; omega)
        have e1 : nth o ws (k + 1) = (ws[k]?.getD 0, k + 1) := rfl
        rw [e1] at hy hR'
        dsimp only at hy
        have hk1 : ((k + 1 : Nat) : Int) = (k : Int) + 1 := by omega
        rw [hk1] at hy
        generalize ws[k]?.getD 0 = x at *
        have hti : (k : Int) < (len : Int) := by omega
        have htz : (0 : Int) ≤ (k : Int) := by omega
        have hlz : (len : Int) ≤ 1000 := by omega
        gi_wp2
        refine hR'.mono ?_
        rintro e W3 (⟨rfl, hJ3, hk3⟩ | ⟨rfl, hx3⟩)
        · gi_wp2
          go_roundw
          case rel => exact ⟨k + 1, by omega, by simp, by rw [upto_succ, e1]; exact hJ3, hnx.trans hk3⟩
          case measure => simp [intOf]; omega
        · gi_wp2
          refine bodyPost_ret (results_none rfl _ _ _) rfl ?_
          exact ⟨⟨_, rfl⟩, .inr ⟨_, ⟨k + 2, by omega, by rw [upto_succ _ (k + 1), e1]⟩, hx3⟩⟩
      · obtain rfl : k = len := by omega
        gi_wp2
        go_end0
        exact ⟨⟨_, rfl⟩, .inl ⟨_, rfl, hJs⟩⟩
  · gi_wp2
    refine bodyPost_ret (results_none rfl _ _ _) rfl ?_
    exact ⟨⟨_, rfl⟩, .inr ⟨_, ⟨1, by omega, rfl⟩, hx1⟩⟩

/-- What lock.all hands back. -/
theorem all_stops (F : Fence) (n : Nat) (hf : F.fn 34) (hro : F.round = none) (hn : 1 ≤ n) (Bl len cap : Nat) (o : Int) (ws : List Int) (A : Option Addr) (w : World) (hlen : len ≤ 1000)
    (h0 : w.cell? ⟨Bl, 0, none⟩ = some (.int .i64 o)) (h1 : w.cell? ⟨Bl, 1, none⟩ = some (.slice A len cap)) (hR : Rd w 0 1 A len (ws.map iv)) :
    SeqStopsK F n Try.prog 34 #[.pointer (some ⟨Bl, 0, none⟩)] (fun x : Int × Nat => #[.int .i64 x.1, .int .i64 (x.2 : Int)]) (Below w.heap.size) (fun ys => ys = upto (nth o ws) (howMany o ws))
      (fun pre => ∃ k, k ≤ howMany o ws ∧ pre = upto (nth o ws) k) (howMany o ws) w := fun l J Jx W hW _ _ hY hJ => by
  have hl : ws.length = len := by simpa using hR.1
  have hBl : Bl < w.heap.size := cell_lt h0
  by_cases ho : o = 0
  · subst ho
    exact (all_none F n hf hro l Bl J W ((hW.cell (p := ⟨Bl, 0, none⟩) hBl).trans h0) hJ).mono fun e W' ⟨he, hj⟩ => ⟨he, .inl ⟨_, rfl, hj⟩⟩
  · have hm : howMany o ws = len + 1 := by unfold howMany; rw [if_neg ho, hl]
    rw [hm] at hY ⊢
    exact all_some F n hf hro hn l Bl len cap o (by simpa using ho) ws A w hlen J Jx hY W hW h0 h1 hR hJ

set_option maxHeartbeats 1000000 in
theorem all_in (F : Fence) (n : Nat) (hf : F.fn 27) (hro : F.round = none) (o : Int) (s : Value) (w : World) (A : Option Addr) (len cap : Nat) (hs : s = .slice A len cap) :
    CallsIn F n Try.prog 27 #[.agg #[.int .i64 o, s]] w fun e w' => e = .returned (.func (.func 34) #[] #[.pointer (some ⟨w.heap.size, 0, none⟩)]) ∧ w' = w.alloc (.cells #[.int .i64 o, s] 24) := by
  subst hs
  refine callsIn_of_wp Try.func27 rfl hf ?_ hro
  simp only [Try.ntmps27, List.size_toArray, List.length_cons, List.length_nil, Nat.reduceAdd, Nat.reduceSub, Array.replicate_succ, Array.replicate_zero, List.push_toArray, List.append_toArray, List.nil_append, List.cons_append]
  gi_wp2
  go_ret
  exact ⟨rfl, rfl⟩

/-- A lock's tasks, from its owner on. -/
def allL (o : Int) (ws : List Int) : List Int := if o = 0 then [] else o :: ws
theorem allL_len (o : Int) (ws : List Int) : (allL o ws).length = howMany o ws := by
  unfold allL howMany
  split <;> simp
theorem allL_nth (o : Int) (ws : List Int) (k : Nat) (h : k < howMany o ws) : (allL o ws)[k]? = some (nth o ws k).1 := by
  unfold howMany at h
  unfold allL nth
  split at h
  · omega
  · rw [if_neg (by assumption)]
    have : k < (o :: ws).length := by simpa using h
    rw [List.getElem?_eq_getElem this]
    rfl
/-- The place of a number in a list; -1: it is none of it. -/
def fnd (l : List Int) (x : Int) : Int := if x ∈ l then ((l.idxOf x : Nat) : Int) else -1
theorem fnd_none (l : List Int) (x : Int) (h : ∀ i : Nat, i < l.length → l[i]? ≠ some x) : fnd l x = -1 := by
  unfold fnd
  rw [if_neg]
  intro hx
  obtain ⟨i, hi, e⟩ := List.mem_iff_getElem.1 hx
  exact h i hi (by rw [List.getElem?_eq_getElem hi, e])
theorem idxOf_at : ∀ (l : List Int) (x : Int) (k : Nat), l[k]? = some x → (∀ i, i < k → l[i]? ≠ some x) → l.idxOf x = k
  | [], x, k, h, _ => by simp at h
  | a :: l, x, 0, h, _ => by
    simp at h
    subst h
    simp
  | a :: l, x, k + 1, h, hb => by
    have h0 := hb 0 (by omega)
    simp at h0
    have ih := idxOf_at l x k (by simpa using h) (fun i hi => by simpa using hb (i + 1) (by omega))
    rw [List.idxOf_cons, cond_eq_ite, if_neg (by simpa using h0), ih]
theorem fnd_at (l : List Int) (x : Int) (k : Nat) (h : l[k]? = some x) (hb : ∀ i, i < k → l[i]? ≠ some x) : fnd l x = (k : Int) := by
  unfold fnd
  rw [if_pos (List.mem_of_getElem? h), idxOf_at l x k h hb]

set_option maxRecDepth 100000 in
set_option maxHeartbeats 2000000 in
theorem find_any (o x : Int) (A : Option Addr) (len cap : Nat) (ws : List Int) (w : World) (hlen : len ≤ 1000) (hR : Rd w 0 1 A len (ws.map iv)) :
    Calls Try.prog 24 #[.agg #[.int .i64 o, .slice A len cap], .int .i64 x] w fun e w' => e = .returned (.int .i64 (fnd (allL o ws) x)) ∧ Below w.heap.size w w' := by
  refine (callsIn_wide (n := 3)).1 ?_
  refine callsIn_of_wp_marks Try.func24 rfl trivial ?_ rfl
  simp only [Try.ntmps24, List.size_toArray, List.length_cons, List.length_nil, Nat.reduceAdd, Nat.reduceSub, Array.replicate_succ, Array.replicate_zero, List.push_toArray, List.append_toArray, List.nil_append, List.cons_append]
  gi_wp2_with (refine ⟨trivial, ?_⟩; gi_at_call 27; refine (all_in Fence.wide _ trivial rfl _ _ _ A len cap rfl).mono ?_; rintro e w' ⟨rfl, rfl⟩)
  have hl : ws.length = len := by simpa using hR.1
  obtain ⟨w1, hw1⟩ : ∃ w1, w.alloc (.cells #[.int .i64 o, .slice A len cap] 24) = w1 := ⟨_, rfl⟩
  rw [hw1]
  have hs1 : w1.heap.size = w.heap.size + 1 := by rw [← hw1]; simp
  obtain ⟨w2, hw2⟩ : ∃ w2, w1.alloc (.cells #[.int .i64 x] 3) = w2 := ⟨_, rfl⟩
  rw [hw2]
  have hs2 : w2.heap.size = w.heap.size + 2 := by rw [← hw2]; simp [hs1]
  obtain ⟨w3, hw3⟩ : ∃ w3, w2.alloc (.cells #[.int .i64 0] 3) = w3 := ⟨_, rfl⟩
  rw [hw3]
  have hs3 : w3.heap.size = w.heap.size + 3 := by rw [← hw3]; simp [hs2]
  obtain ⟨w4, hw4⟩ : ∃ w4, w3.alloc (.cells #[.int .i64 o, .slice A len cap] 24) = w4 := ⟨_, rfl⟩
  rw [hw4]
  have hs4 : w4.heap.size = w.heap.size + 4 := by rw [← hw4]; simp [hs3]
  have hb1 : Below w.heap.size w w1 := by rw [← hw1]; exact below_alloc1 w _
  have hb2 : Below w.heap.size w w2 := by rw [← hw2]; exact hb1.alloc hb1.size _
  have hb3 : Below w.heap.size w w3 := by rw [← hw3]; exact hb2.alloc hb2.size _
  have hb4 : Below w.heap.size w w4 := by rw [← hw4]; exact hb3.alloc hb3.size _
  have bX : Blk w4 (w.heap.size + 1) 3 #[.int .i64 x] := by
    rw [← hw4, ← hw3, ← hw2]; have h := Blk.new w1 3 #[.int .i64 x]; rw [hs1] at h; exact (h.alloc _).alloc _
  have bR : Blk w4 (w.heap.size + 2) 3 #[.int .i64 0] := by
    rw [← hw4, ← hw3]; have h := Blk.new w2 3 #[.int .i64 0]; rw [hs2] at h; exact h.alloc _
  have bL : Blk w4 (w.heap.size + 3) 24 #[.int .i64 o, .slice A len cap] := by
    rw [← hw4]; have h := Blk.new w3 24 #[.int .i64 o, .slice A len cap]; rw [hs3] at h; exact h
  have cX := bX.cellv (i := 0) (v := .int .i64 x) rfl
  have cR := bR.cellv (i := 0) (v := .int .i64 0) rfl
  have fX := bX.frozen 0
  have fR := bR.frozen 0
  have hR4 := hR.below hb4
  clear hw1 hw2 hw3 hw4
  refine wpIn_rangeFunc_ownG rfl (by omega) (gf := 34) (lb := #[.pointer (some ⟨w.heap.size + 1 + 1 + 1, 0, none⟩)]) rfl trivial (enters_of Try.func34 (by kernel_rfl) rfl)
    (all_stops Fence.wide _ trivial rfl (by omega) (w.heap.size + 3) len cap o ws A w4 hlen (bL.cellv rfl) (bL.cellv rfl) hR4) belowK_t (belowK_b (by omega)) (Below.refl _ _) (fun _ => rfl)
    (fun pre W => ((∀ p ∈ pre, p.1 ≠ x) ∧ W.cell? ⟨w.heap.size + 1, 0, none⟩ = some (.int .i64 x) ∧ W.cell? ⟨w.heap.size + 2, 0, none⟩ = some (.int .i64 0) ∧ W.frozen? ⟨w.heap.size + 2, 0, none⟩ = false) ∧ Below w.heap.size w W)
    (fun c pre W => (c = .ret ∧ ∃ ini last, pre = ini ++ [last] ∧ (∀ p ∈ ini, p.1 ≠ x) ∧ last.1 = x ∧ W.cell? ⟨w.heap.size + 2, 0, none⟩ = some (.int .i64 (last.2 : Int))) ∧ Below w.heap.size w W)
    (OwnFrom.and (Own.from (fun s A B row hs hg hr => ⟨hs.1, cell_kept hs.2.1 hg hr, cell_kept hs.2.2.1 hg hr, (frozen_kept hs.2.2.1 hg hr).trans hs.2.2.2⟩) _) (ownFrom_below (Nat.le_refl _) (by omega)))
    (fun c => OwnFrom.and (Own.from (fun s A B row hs hg hr => by obtain ⟨hc, ini, last, e1, e2, e3, e4⟩ := hs; exact ⟨hc, ini, last, e1, e2, e3, cell_kept e4 hg hr⟩) _) (ownFrom_below (Nat.le_refl _) (by omega)))
    ⟨⟨by simp, cX, cR, fR⟩, hb4⟩
    (fun p => { tmps := #[.agg #[.int .i64 o, .slice A len cap], .int .i64 x, .pointer (some ⟨w.heap.size, 0, none⟩), .pointer (some ⟨w.heap.size + 1, 0, none⟩), .pointer (some ⟨w.heap.size + 1 + 1, 0, none⟩), .int .i64 p.1, .int .i64 (p.2 : Int), .agg #[.int .i64 o, .slice A len cap], .func (.func 34) #[] #[.pointer (some ⟨w.heap.size + 1 + 1 + 1, 0, none⟩)], .int .i64 p.1, .int .i64 (p.2 : Int), undef, undef, undef, undef], defers := [] }) ?assign ?body ?done ?stop
  case assign =>
    intro l x W K hK
    gi_wp2
    exact hK
  case body =>
    rintro l pre p W ⟨⟨hp, hcx, hcr, hfr⟩, hB⟩ _
    gi_wp2
    · have hx : (p.1 == x) = true := by assumption
      exact ⟨(KeepsOthers.setCell _ _ _).from _, ⟨rfl, pre, p, rfl, hp, by simpa using hx, World.cell?_setCell_same' _ _ _ (by rw [hcr]; rfl)⟩, hB.setCell (p := ⟨w.heap.size + 2, 0, none⟩) (by simp) _⟩
    · have hx : (p.1 == x) = false := by assumption
      exact ⟨KeepsFrom.refl _ _, Below.refl _ _, ⟨fun q hq => (List.mem_append.1 hq).elim (hp q) (fun e => by simp at e; subst e; simpa using hx), hcx, hcr, hfr⟩, hB⟩
  case done =>
    rintro D ys W hD rfl ⟨⟨hne, hcx, hcr, hfr⟩, hB⟩ hK
    gi_wp2
    have hK' := (KeepsOthers.setCell W ⟨w.heap.size + 2, 0, none⟩ (.int .i64 (-1))).same D _ hK rfl
    refine ⟨by simp, .inl ⟨_, _, rfl, run_takeDeferred hK', ?_⟩⟩
    have hc5 := cell_kept (World.cell?_setCell_same' W ⟨w.heap.size + 2, 0, none⟩ (.int .i64 (-1)) (by rw [hcr]; rfl)) (grownBy_putObj' _ D (.deferred none)) (fun r e => by cases e; exact ⟨_, hK', rfl⟩)
    have hres : fnd (allL o ws) x = -1 := fnd_none _ _ fun i hi => by
      rw [allL_len] at hi
      rw [allL_nth o ws i hi]
      intro e
      exact hne _ (mem_upto (nth o ws) _ i hi) (by simpa using e)
    rw [hres]
    refine ⟨.int .i64 (-1), ?_, rfl, (hB.setCell (p := ⟨w.heap.size + 2, 0, none⟩) (by simp) _).trans (belowK_b (w := w) (Nat.le_refl _) _ D _ _ (by omega) hK' rfl rfl)⟩
    simp [results, Try.f24, go_sem, hc5]
  case stop =>
    rintro D c pre W hD ⟨k, hk, rfl⟩ ⟨⟨rfl, ini, last, e1, e2, e3, hcr⟩, hB⟩ hK
    gi_wp2
    refine ⟨by simp, .inl ⟨_, _, rfl, run_takeDeferred hK, ?_⟩⟩
    have hc5 := cell_kept hcr (grownBy_putObj' _ D (.deferred none)) (fun r e => by cases e; exact ⟨_, hK, rfl⟩)
    obtain ⟨k', rfl⟩ : ∃ k', k = k' + 1 := by
      cases k with
      | zero => simp [upto] at e1
      | succ k' => exact ⟨k', rfl⟩
    rw [upto_succ] at e1
    obtain ⟨rfl, e5⟩ := List.append_inj' e1 rfl
    obtain rfl : nth o ws k' = last := by simpa using e5
    have hres : fnd (allL o ws) x = (k' : Int) := fnd_at _ _ k' (by rw [allL_nth o ws k' (by omega), e3]) fun i hi => by
      rw [allL_nth o ws i (by omega)]
      intro e
      exact e2 _ (mem_upto (nth o ws) _ i hi) (by simpa using e)
    rw [hres]
    refine ⟨.int .i64 (k' : Int), ?_, rfl, hB.trans (belowK_b (w := w) (Nat.le_refl _) W D _ _ (by omega) hK rfl rfl)⟩
    simp [results, Try.f24, go_sem, hc5, nth]
end Go.Proofs.Ytopicgodflhjcaa
