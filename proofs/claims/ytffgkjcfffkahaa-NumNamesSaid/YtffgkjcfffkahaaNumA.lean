/-
  Contracts of the reference's small functions on bytes (Twin, Same, End), of the program's End, and of slices.Clone at bytes. No condition beyond those each theorem names.
-/
import Derived.Test.YtffgkjcfffkahaaKit
namespace Go.Proofs.Ytffgkjcfffkahaa
open Go.RowKit

theorem u8_info : (Try.prog.info? 5).map (fun i => (i.zero, i.size, i.bytes)) = some (some (.int .u8 0), 1, 1) := by kernel_rfl

/-- One result: a slice of n bytes in new memory. -/
def GivesB (w : World) (n : Nat) (bs : List UInt8) (e : Ending) (w' : World) : Prop :=
  ∃ A c, e = .returned (.slice A n c) ∧ Own w' w.heap.size 5 1 A n c (bs.map bv) ∧ Below w.heap.size w w'
/-- Two results: a slice of n bytes in new memory, a number. -/
def GivesBI (w : World) (n : Nat) (bs : List UInt8) (k : Int) (e : Ending) (w' : World) : Prop :=
  ∃ A c, e = .returned (.tuple #[.slice A n c, .int .i64 k]) ∧ Own w' w.heap.size 5 1 A n c (bs.map bv) ∧ Below w.heap.size w w'
theorem gives_b {w w' : World} {A : Option Addr} {n c : Nat} {bs : List UInt8} (ho : Own w' w.heap.size 5 1 A n c (bs.map bv)) (hb : Below w.heap.size w w') : GivesB w n bs (.returned (.slice A n c)) w' := ⟨A, c, rfl, ho, hb⟩
theorem gives_bi {w w' : World} {A : Option Addr} {n c : Nat} {bs : List UInt8} {k : Int} (ho : Own w' w.heap.size 5 1 A n c (bs.map bv)) (hb : Below w.heap.size w w') : GivesBI w n bs k (.returned (.tuple #[.slice A n c, .int .i64 k])) w' := ⟨A, c, rfl, ho, hb⟩

set_option maxHeartbeats 400000 in
theorem twin_any (A : Option Addr) (n c lo : Nat) (bs : List UInt8) (w : World) (hr : Rd w lo 1 A n (bs.map bv)) (hn : n ≤ 1000000) :
    Calls Try.prog 8 #[.slice A n c] w (GivesB w n bs) := by
  obtain ⟨i0, hi0, hz0, hz1, hz2⟩ := info_parts u8_info
  go_enter Try.func8, Try.ntmps8
  go_wp2_with (at_builtin; refine wpList_app _ rfl _ _ _ rfl w.heap.size 5 i0 _ 1 1 Try.underlying23 hi0 hz0 hz1 hz2 rfl (by omega) none 0 0 [] rfl (Own.nil _ _ _ _ _) A n c lo (bs.map bv) rfl hr (bv_one bs) (by simp only [maxLen]; omega) (by omega) (Nat.le_refl _) ?_; intro D' c' w1 hown hg hat)
  go_ret
  simp only [Nat.zero_add, List.nil_append] at hown
  exact gives_b hown ((Below.refl _ _).grown hg (Nat.le_refl _) (by simp [rowOf]))

set_option maxHeartbeats 400000 in
theorem same_any (A B : Option Addr) (n m c d lo lo2 : Nat) (xs ys : List UInt8) (w : World) (ha : Rd w lo 1 A n (xs.map bv)) (hb : Rd w lo2 1 B m (ys.map bv)) :
    Calls Try.prog 13 #[.slice A n c, .slice B m d] w fun e w' => e = .returned (.bool (xs == ys)) ∧ w = w' := by
  have h1 := run_bytes_string (P := Try.prog) w 23 5 9 Try.underlying23 Try.underlying5 Try.underlying9 A n c lo xs ha
  have h2 := run_bytes_string (P := Try.prog) w 23 5 9 Try.underlying23 Try.underlying5 Try.underlying9 B m d lo2 ys hb
  go_enter Try.func13, Try.ntmps13
  go_wp2
  go_ret
  exact ⟨rfl, rfl⟩
theorem same_yes {A B : Option Addr} {n m : Nat} (c d : Nat) {lo lo2 : Nat} {xs : List UInt8} {w : World} (ha : Rd w lo 1 A n (xs.map bv)) (hb : Rd w lo2 1 B m (xs.map bv)) :
    Calls Try.prog 13 #[.slice A n c, .slice B m d] w fun e w' => e = .returned (.bool true) ∧ w = w' :=
  (same_any A B n m c d lo lo2 xs xs w ha hb).mono fun e w' ⟨he, hw⟩ => ⟨by rw [he]; simp, hw⟩

/-- What End answers. -/
def endOf (n : Nat) : Int := if n = 0 then 0 else 11
theorem endOf_pos {n : Nat} (h : 0 < n) : (11 : Int) = endOf n := by unfold endOf; rw [if_neg (by omega)]
set_option maxHeartbeats 400000 in
theorem end_any (A : Option Addr) (n c : Nat) (w : World) :
    Calls Try.prog 14 #[.slice A n c] w fun e w' => e = .returned (.int .i64 (endOf n)) ∧ w = w' := by
  by_cases h : n = 0
  · subst h
    go_enter Try.func14, Try.ntmps14
    go_wp2
    go_ret
    exact ⟨rfl, rfl⟩
  · have h0 : 0 < n := by omega
    rw [← endOf_pos h0]
    go_enter Try.func14, Try.ntmps14
    go_wp2
    go_ret
    exact ⟨rfl, rfl⟩

set_option maxHeartbeats 400000 in
theorem refEnd_any (A : Option Addr) (n c : Nat) (w : World) :
    Calls Try.prog 15 #[.slice A n c] w fun e w' => e = .returned (.int .i64 (endOf n)) ∧ w = w' := by
  by_cases h : n = 0
  · subst h
    go_enter Try.func15, Try.ntmps15
    go_wp2
    go_ret
    exact ⟨rfl, rfl⟩
  · rw [← endOf_pos (by omega : 0 < n)]
    have h0 : ((n : Int) == 0) = false := by simp; omega
    have h1 : ((n : Int) != 0) = true := by simp; omega
    go_enter Try.func15, Try.ntmps15
    go_wp2
    go_ret
    exact ⟨rfl, rfl⟩

/-! ### spoil: it writes over the bytes of one block -/
/-- Block g begins with m bytes, and may be written. -/
def BB (w : World) (g m : Nat) : Prop := ∃ cur, w.heap[g]? = some (.cells cur 5 (0, 0)) ∧ m ≤ cur.size ∧ ∀ j, j < m → ∃ b : UInt8, cur[j]? = some (bv b)
/-- The slice's bytes lie in such a block, from 'lo' on. -/
def In (w : World) (lo : Nat) (A : Option Addr) (n : Nat) : Prop := 0 < n → ∃ g o m, A = some ⟨g, o, none⟩ ∧ lo ≤ g ∧ BB w g m ∧ o + n ≤ m
/-- What spoil does: below 'lo' nothing, and a block of bytes stays one. -/
def Touch (lo : Nat) (w w' : World) : Prop := Below lo w w' ∧ ∀ g m, BB w g m → BB w' g m

theorem In.touch {w w' : World} {lo lo2 n : Nat} {A : Option Addr} (h : In w lo A n) (ht : Touch lo2 w w') : In w' lo A n := fun hn => by
  obtain ⟨g, o, m, e, hl, hb, hm⟩ := h hn
  exact ⟨g, o, m, e, hl, ht.2 g m hb, hm⟩
theorem BB.below {w w' : World} {g m : Nat} (h : BB w g m) (hb : Below w.heap.size w w') : BB w' g m := by
  obtain ⟨cur, hg, r⟩ := h
  exact ⟨cur, (hb.block g (lt_block hg)).trans hg, r⟩
theorem In.below {w w' : World} {lo n : Nat} {A : Option Addr} (h : In w lo A n) (hb : Below w.heap.size w w') : In w' lo A n := fun hn => by
  obtain ⟨g, o, m, e, hl, hB, hm⟩ := h hn
  exact ⟨g, o, m, e, hl, hB.below hb, hm⟩
theorem In.low {w : World} {lo lo' n : Nat} {A : Option Addr} (h : In w lo A n) (hl : lo' ≤ lo) : In w lo' A n := fun hn => by
  obtain ⟨g, o, m, e, hg, r⟩ := h hn
  exact ⟨g, o, m, e, by omega, r⟩
theorem Own.bb {w : World} {lo n c : Nat} {A : Option Addr} {bs : List UInt8} (h : Own w lo 5 1 A n c (bs.map bv)) : In w lo A n := fun hn => by
  rcases h with ⟨rfl, _, _⟩ | ⟨g, cur, rfl, hg, hh, hnc, _, hs, ht⟩
  · omega
  · refine ⟨g, 0, n, rfl, hg, ⟨cur, hh, by omega, fun j hj => ?_⟩, by omega⟩
    have hl : bs.length = n := by
      have := congrArg List.length ht
      simp at this
      omega
    have := congrArg (fun l => l[j]?) ht
    simp only [List.getElem?_take, Nat.mul_one, if_pos hj, Array.getElem?_toList, List.getElem?_map] at this
    exact ⟨bs[j], by rw [this, List.getElem?_eq_getElem (by omega)]; rfl⟩
theorem Touch.refl (lo : Nat) (w : World) : Touch lo w w := ⟨Below.refl _ _, fun _ _ h => h⟩
theorem byte_of (x : Int) (h0 : 0 ≤ x) (h1 : x < 256) : Value.int .u8 x = bv (UInt8.ofNat x.toNat) := by
  unfold bv
  congr 1
  simp
  omega
theorem BB.set {w : World} {g m : Nat} (h : BB w g m) (g2 k : Nat) (b : UInt8) : BB (w.setCell ⟨g2, k, none⟩ (bv b)) g m := by
  obtain ⟨cur, hg, hs, hc⟩ := h
  by_cases e : g = g2
  · subst e
    refine ⟨cur.setIfInBounds k (bv b), heap_setCell_same w g k cur _ _ hg, by simpa using hs, fun j hj => ?_⟩
    by_cases hk : k = j
    · subst hk
      exact ⟨b, by rw [Array.getElem?_setIfInBounds_self_of_lt (by omega)]⟩
    · rw [Array.getElem?_setIfInBounds_ne hk]
      exact hc j hj
  · exact ⟨cur, (heap_setCell_other w ⟨g2, k, none⟩ g (bv b) e).trans hg, hs, hc⟩
theorem BB.cell {w : World} {g m k : Nat} (h : BB w g m) (hk : k < m) : ∃ b : UInt8, w.cell? ⟨g, k, none⟩ = some (bv b) := by
  obtain ⟨cur, hg, hs, hc⟩ := h
  obtain ⟨b, hb⟩ := hc k hk
  exact ⟨b, by rw [cell_of_row w g k cur _ _ hg, hb]⟩
theorem BB.frozen {w : World} {g m : Nat} (h : BB w g m) (k : Nat) : w.frozen? ⟨g, k, none⟩ = false := by
  obtain ⟨cur, hg, _⟩ := h
  exact frozen_of_row w g k cur _ hg

set_option maxHeartbeats 400000 in
theorem spoil_any (A : Option Addr) (n c lo : Nat) (w : World) (h : In w lo A n) (hn : n ≤ 1000000) :
    Calls Try.prog 16 #[.slice A n c] w fun e w' => e = .returned (.tuple #[]) ∧ Touch lo w w' := by
  go_enter Try.func16, Try.ntmps16
  go_wp2
  go_loopw [2] (fun i wr => ∃ k : Nat, k ≤ n ∧ i = .int .i64 k ∧ Touch lo w wr) (fun i _ => n - (intOf i).toNat)
  case atStart => exact ⟨0, Nat.zero_le _, rfl, Touch.refl _ _⟩
  case round =>
    obtain ⟨k, hk, rfl, ht⟩ := hrel
    by_cases hlt : k < n
    · obtain ⟨g, o, m, rfl, hg, hB, hm⟩ := h.touch ht (by omega)
      obtain ⟨b, hb⟩ := hB.cell (k := o + k) (by omega)
      have hf := hB.frozen (o + k)
      unfold bv at hb
      go_wp2
      go_roundw
      case rel => exact ⟨k + 1, by omega, by go_num, (ht.1).setCell hg _, fun g2 m2 h2 => by rw [byte_of _ (by omega) (by omega)]; exact (ht.2 g2 m2 h2).set g (o + k) _⟩
      case measure => simp [intOf]; omega
    · go_wp2
      go_end0
      exact ⟨rfl, ht⟩
end Go.Proofs.Ytffgkjcfffkahaa
