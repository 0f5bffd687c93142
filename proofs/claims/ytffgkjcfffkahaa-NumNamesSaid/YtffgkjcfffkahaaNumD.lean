/-
  Contracts of num.TakePart, and of the reference's Take and TakePart. No condition beyond those each theorem names.
-/
import Derived.Test.YtffgkjcfffkahaaNumC
import Derived.Deep.RegionHeld3
import Derived.Deep.QuietTactic
import Derived.BigQuiet
namespace Go.Proofs.Ytffgkjcfffkahaa
open Go.RowKit

set_option maxHeartbeats 400000 in
theorem refTake_arg (A : Option Addr) (n c : Nat) (size : Int) (w : World) (hs : size < 1 ∨ 8 < size) :
    Calls Try.prog 18 #[.slice A n c, .int .i64 size] w fun e w' => e = .returned (.tuple #[.int .u64 0, .slice none 0 0, .int .i64 2]) ∧ w = w' := by
  rcases hs with h | h
  · go_enter Try.func18, Try.ntmps18
    go_wp2
    go_ret3
    exact ⟨rfl, rfl⟩
  · have h1 : ¬ size < 1 := by omega
    go_enter Try.func18, Try.ntmps18
    go_wp2
    go_ret3
    exact ⟨rfl, rfl⟩
set_option maxHeartbeats 400000 in
theorem refTake_short (A : Option Addr) (n c s : Nat) (w : World) (hs : 1 ≤ s) (hs8 : s ≤ 8) (hn : n < s) :
    Calls Try.prog 18 #[.slice A n c, .int .i64 s] w fun e w' => e = .returned (.tuple #[.int .u64 0, .slice none 0 0, .int .i64 10]) ∧ w = w' := by
  have h1 : ¬ (s : Int) < 1 := by omega
  have h2 : ¬ (8 : Int) < s := by omega
  go_enter Try.func18, Try.ntmps18
  go_wp2
  go_ret3
  exact ⟨rfl, rfl⟩

set_option maxHeartbeats 400000 in
theorem refTake_ok (A : Option Addr) (n c s lo : Nat) (bs : List UInt8) (w : World) (hr : Rd w lo 1 A n (bs.map bv)) (hs : 1 ≤ s) (hs8 : s ≤ 8) (hn : s ≤ n) (hnc : n ≤ c) (hbig : n ≤ 1000000) :
    Calls Try.prog 18 #[.slice A n c, .int .i64 s] w (GivesNBI w (val (bs.take s)) (n - s) (bs.drop s) 0) := by
  have h1 : ¬ (s : Int) < 1 := by omega
  have h2 : ¬ (8 : Int) < s := by omega
  have hT := hr.takeB hn
  by_cases hc : c = s
  · obtain rfl : n = s := by omega
    have hD0 := hr.dropE hn hnc hc
    rw [Nat.sub_self] at hD0
    have hD := hD0.drew
    have hT' := hT.drew
    subst hc
    rw [Nat.sub_self]
    go_enter Try.func18, Try.ntmps18
    go_wp2_with fail
    go_region_with (first
      | (go_at_call 24; refine (number_any _ _ _ lo _ _ (by assumption) (by omega)).mono ?_; rintro e w1 ⟨rfl, rfl⟩)
      | (go_at_call 8; refine (twin_any _ _ _ lo _ _ (by assumption) (by omega)).mono ?_; rintro e w1 ⟨D, d, rfl, ho, hb⟩; have hT1 := hT'.below hb))
    all_goals
      go_wp2
      go_ret3
      exact gives_nbi (w := w) ho ((Below.refl w.heap.size w).drew.trans hb)
  · have hD := (hr.dropB hn).drew
    have hT' := hT.drew
    go_enter Try.func18, Try.ntmps18
    go_wp2_with fail
    go_region_with (first
      | (go_at_call 24; refine (number_any _ _ _ lo _ _ (by assumption) (by omega)).mono ?_; rintro e w1 ⟨rfl, rfl⟩)
      | (go_at_call 8; refine (twin_any _ _ _ lo _ _ (by assumption) (by omega)).mono ?_; rintro e w1 ⟨D, d, rfl, ho, hb⟩; have hT1 := hT'.below hb))
    all_goals
      go_wp2
      go_ret3
      exact gives_nbi (w := w) ho ((Below.refl w.heap.size w).drew.trans hb)

/-- Three results: two slices of bytes, a number. The bytes may be read; they lie in blocks that may be written over, all in new memory. -/
def GivesBBI (w : World) (n m : Nat) (xs ys : List UInt8) (k : Int) (e : Ending) (w' : World) : Prop :=
  ∃ A c B d, e = .returned (.tuple #[.slice A n c, .slice B m d, .int .i64 k]) ∧ Rd w' w.heap.size 1 A n (xs.map bv) ∧ In w' w.heap.size A n ∧ Rd w' w.heap.size 1 B m (ys.map bv) ∧ In w' w.heap.size B m ∧ Below w.heap.size w w'
theorem gives_bbi {w w' : World} {A B : Option Addr} {n m c d : Nat} {xs ys : List UInt8} {k : Int} (h1 : Rd w' w.heap.size 1 A n (xs.map bv)) (h2 : In w' w.heap.size A n) (h3 : Rd w' w.heap.size 1 B m (ys.map bv)) (h4 : In w' w.heap.size B m) (hb : Below w.heap.size w w') :
    GivesBBI w n m xs ys k (.returned (.tuple #[.slice A n c, .slice B m d, .int .i64 k])) w' := ⟨A, c, B, d, rfl, h1, h2, h3, h4, hb⟩
theorem In.takeI {w : World} {lo n k : Nat} {A : Option Addr} (h : In w lo A n) (hk : k ≤ n) : In w lo A k := fun h0 => by
  obtain ⟨g, o, m, e, hl, hb, hm⟩ := h (by omega)
  exact ⟨g, o, m, e, hl, hb, by omega⟩
theorem In.dropI {w : World} {lo n k : Nat} {A : Option Addr} (h : In w lo A n) (hk : k ≤ n) : In w lo (A.map fun x => x.add k) (n - k) := fun h0 => by
  obtain ⟨g, o, m, rfl, hl, hb, hm⟩ := h (by omega)
  exact ⟨g, o + k, m, by simp [add_lit], hl, hb, by omega⟩
theorem In.dropF {w : World} {lo n k c : Nat} {A : Option Addr} (h : In w lo A n) (hk : k ≤ n) (hc : n ≤ c) : In w lo (if c = k then A else A.map fun x => x.add k) (n - k) := by
  by_cases e : c = k
  · rw [if_pos e]
    intro h0
    omega
  · rw [if_neg e]
    exact h.dropI hk
theorem In.zero (w : World) (lo : Nat) (A : Option Addr) : In w lo A 0 := fun h => by omega

set_option maxHeartbeats 400000 in
theorem takePart_short (A : Option Addr) (n c : Nat) (w : World) (hn : n < 2) :
    Calls Try.prog 19 #[.slice A n c] w fun e w' => e = .returned (.tuple #[.slice none 0 0, .slice none 0 0, .int .i64 10]) ∧ w = w' := by
  have H := hid (take_short A n c 2 w (by omega) (by omega) (by omega))
  go_enter Try.func19, Try.ntmps19
  go_wp2_with (refine H.out.mono ?_; rintro e w1 ⟨rfl, rfl⟩)
  go_ret3
  exact ⟨rfl, rfl⟩
set_option maxHeartbeats 400000 in
theorem takePart_many (A : Option Addr) (n c lo : Nat) (bs : List UInt8) (w : World) (hr : Rd w lo 1 A n (bs.map bv)) (hn : 2 ≤ n) (hnc : n ≤ c) (hbig : n ≤ 1000000) (h : 4096 < val (bs.take 2)) :
    Calls Try.prog 19 #[.slice A n c] w fun e w' => e = .returned (.tuple #[.slice none 0 0, .slice none 0 0, .int .i64 4]) ∧ Below w.heap.size w w' := by
  have H := hid (take_ok A n c 2 lo bs w hr (by omega) (by omega) hn hnc hbig)
  go_enter Try.func19, Try.ntmps19
  go_wp2_with (refine H.out.mono ?_; rintro e w1 ⟨D, d, rfl, ho, hb⟩)
  go_ret3
  exact ⟨rfl, hb⟩
set_option maxHeartbeats 400000 in
theorem takePart_less (A : Option Addr) (n c lo : Nat) (bs : List UInt8) (w : World) (hr : Rd w lo 1 A n (bs.map bv)) (hn : 2 ≤ n) (hnc : n ≤ c) (hbig : n ≤ 1000000) (h : val (bs.take 2) ≤ 4096) (h2 : n - 2 < val (bs.take 2)) :
    Calls Try.prog 19 #[.slice A n c] w fun e w' => e = .returned (.tuple #[.slice none 0 0, .slice none 0 0, .int .i64 10]) ∧ Below w.heap.size w w' := by
  have H := hid (take_ok A n c 2 lo bs w hr (by omega) (by omega) hn hnc hbig)
  go_enter Try.func19, Try.ntmps19
  go_wp2_with (refine H.out.mono ?_; rintro e w1 ⟨D, d, rfl, ho, hb⟩)
  go_ret3
  exact ⟨rfl, hb⟩
set_option maxHeartbeats 400000 in
theorem takePart_ok (A : Option Addr) (n c lo : Nat) (bs : List UInt8) (w : World) (hr : Rd w lo 1 A n (bs.map bv)) (hn : 2 ≤ n) (hnc : n ≤ c) (hbig : n ≤ 1000000) (q : Nat) (hq : val (bs.take 2) = q) (h : q ≤ 4096) (h2 : q ≤ n - 2) :
    Calls Try.prog 19 #[.slice A n c] w (GivesBBI w q (n - 2 - q) ((bs.drop 2).take q) (bs.drop (2 + q)) 0) := by
  obtain ⟨m, rfl⟩ : ∃ m, n = m + 2 := ⟨n - 2, by omega⟩
  have H := hid (take_ok A (m + 2) c 2 lo bs w hr (by omega) (by omega) hn hnc hbig)
  rw [hq, Nat.add_sub_cancel] at H
  rw [Nat.add_sub_cancel] at h2 ⊢
  clear hq
  go_enter Try.func19, Try.ntmps19
  go_wp2_with (refine H.out.mono ?_; rintro e w1 ⟨D, d, rfl, ho, hb⟩)
  have hcap := ho.cap.1
  have i1 : (q : Int) ≤ (d : Int) := by omega
  have i2 : (q : Int) ≤ (m : Int) := by omega
  have i3 : (0 : Int) ≤ (q : Int) := by omega
  have hR := hid ho.rd
  have hI := hid ho.bb
  go_quiet (fail)
  have f1 := hR.out.dropF h2 hcap
  have f2 := hI.out.dropF h2 hcap
  rw [List.drop_drop] at f1
  generalize (if d = q then D else Option.map (fun x => x.add q) D) = D2 at *
  have hb2 : Below w.heap.size w (w1.drewN nq) := ⟨hb.os, hb.tape, hb.output, hb.size, hb.block⟩
  go_wp2
  go_ret3
  exact gives_bbi (hR.out.takeB h2) (hI.out.takeI h2) f1 f2 hb2
end Go.Proofs.Ytffgkjcfffkahaa
