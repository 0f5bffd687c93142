/-
  Contract of the reference's TakePart: the part at a text's beginning, or the error. No condition beyond those each theorem names.
-/
import Derived.Test.YtffgkjcfffkahaaNumD
namespace Go.Proofs.Ytffgkjcfffkahaa
open Go.RowKit

set_option maxHeartbeats 400000 in
theorem refTakePart_short (A : Option Addr) (n c : Nat) (w : World) (hn : n < 2) :
    Calls Try.prog 20 #[.slice A n c] w fun e w' => e = .returned (.tuple #[.slice none 0 0, .slice none 0 0, .int .i64 10]) ∧ w = w' := by
  go_enter Try.func20, Try.ntmps20
  go_wp2
  go_ret3
  exact ⟨rfl, rfl⟩
theorem val2_lt (bs : List UInt8) : val (bs.take 2) < 65536 := by
  have h := val_lt (bs.take 2)
  have h2 : (bs.take 2).length ≤ 2 := by rw [List.length_take]; omega
  have h3 : 256 ^ (bs.take 2).length ≤ 256 ^ 2 := Nat.pow_le_pow_right (by omega) h2
  omega
set_option maxHeartbeats 400000 in
theorem refTakePart_many (A : Option Addr) (n c lo : Nat) (bs : List UInt8) (w : World) (hr : Rd w lo 1 A n (bs.map bv)) (hn : 2 ≤ n) (hnc : n ≤ c) (q : Nat) (hq : val (bs.take 2) = q) (h : 4096 < q) :
    Calls Try.prog 20 #[.slice A n c] w fun e w' => e = .returned (.tuple #[.slice none 0 0, .slice none 0 0, .int .i64 4]) ∧ w = w' := by
  have H := hid (number_any A 2 c lo (bs.take 2) w (hr.takeB hn) (by omega))
  have hv := val2_lt bs
  rw [hq] at H hv
  clear hq
  go_enter Try.func20, Try.ntmps20
  go_wp2_with (refine H.out.mono ?_; rintro e w1 ⟨rfl, rfl⟩)
  go_ret3
  exact ⟨rfl, rfl⟩
set_option maxHeartbeats 400000 in
theorem refTakePart_less (A : Option Addr) (n c lo : Nat) (bs : List UInt8) (w : World) (hr : Rd w lo 1 A n (bs.map bv)) (hn : 2 ≤ n) (hnc : n ≤ c) (hbig : n ≤ 1000000) (q : Nat) (hq : val (bs.take 2) = q) (h : q ≤ 4096) (h2 : n - 2 < q) :
    Calls Try.prog 20 #[.slice A n c] w fun e w' => e = .returned (.tuple #[.slice none 0 0, .slice none 0 0, .int .i64 10]) ∧ w = w' := by
  obtain ⟨m, rfl⟩ : ∃ m, n = m + 2 := ⟨n - 2, by omega⟩
  rw [Nat.add_sub_cancel] at h2
  have H := hid (number_any A 2 c lo (bs.take 2) w (hr.takeB hn) (by omega))
  have hv := val2_lt bs
  rw [hq] at H hv
  clear hq
  go_enter Try.func20, Try.ntmps20
  go_wp2_with (refine H.out.mono ?_; rintro e w1 ⟨rfl, rfl⟩)
  go_ret3
  exact ⟨rfl, rfl⟩
set_option maxHeartbeats 1000000 in
theorem refTakePart_two (A : Option Addr) (lo : Nat) (bs : List UInt8) (w : World) (hr : Rd w lo 1 A 2 (bs.map bv)) (hq : val (bs.take 2) = 0) :
    Calls Try.prog 20 #[.slice A 2 2] w (GivesBBI w 0 0 [] [] 0) := by
  have H := hid (number_any A 2 2 lo (bs.take 2) w (hr.takeB (by omega)) (by omega))
  rw [hq] at H
  have f1 : Rd w.drew lo 1 A 0 (([] : List UInt8).map bv) := Rd.nil _ _ _ _
  have e2 : IntKind.i64.wrap 2 = 2 := IntWalk.i64_in _ (by omega)
  go_enter Try.func20, Try.ntmps20
  go_wp2_with (refine H.out.mono ?_; rintro e w1 ⟨rfl, rfl⟩)
  go_region_with (first
    | (go_at_call 8; refine (twin_any _ _ _ lo [] _ f1 (by omega)).mono ?_; rintro e w1 ⟨D1, d1, rfl, ho1, hb1⟩; have f2 := f1.below hb1; clear f1)
    | (go_at_call 8; refine (twin_any _ _ _ lo [] _ f2 (by omega)).mono ?_; rintro e w2 ⟨D2, d2, rfl, ho2, hb2⟩))
  go_wp2
  go_ret3
  exact gives_bbi (w := w) (ho1.below hb2).rd (ho1.below hb2).bb (ho2.rd.low hb1.size) (ho2.bb.low hb1.size) ((Below.refl w.heap.size w).drew.trans (Below.trans hb1 (hb2.mono hb1.size)))

set_option maxHeartbeats 1000000 in
theorem refTakePart_ok (A : Option Addr) (n c lo : Nat) (bs : List UInt8) (w : World) (hr : Rd w lo 1 A n (bs.map bv)) (hn : 2 ≤ n) (hnc : n ≤ c) (hbig : n ≤ 1000000) (q : Nat) (hq : val (bs.take 2) = q) (h : q ≤ 4096) (h2 : q ≤ n - 2) :
    Calls Try.prog 20 #[.slice A n c] w (GivesBBI w q (n - 2 - q) ((bs.drop 2).take q) (bs.drop (2 + q)) 0) := by
  obtain ⟨m, rfl⟩ : ∃ m, n = m + 2 := ⟨n - 2, by omega⟩
  rw [Nat.add_sub_cancel] at h2 ⊢
  by_cases hc2 : c = 2
  · obtain rfl : m = 0 := by omega
    obtain rfl : q = 0 := by omega
    have hl : bs.length = 2 := by simpa using hr.1
    rw [hc2, List.take_zero, show bs.drop (2 + 0) = [] from List.drop_of_length_le (by omega)]
    exact refTakePart_two A lo bs w hr hq
  have H := hid (number_any A 2 c lo (bs.take 2) w (hr.takeB hn) (by omega))
  have hv := val2_lt bs
  rw [hq] at H hv
  clear hq
  have f1 : Rd w.drew lo 1 (A.map fun x => ⟨x.block, x.off + 2, none⟩) q (((bs.drop 2).take q).map bv) := (hr.dropL hn).takeB (by omega)
  by_cases hcq : c = 2 + q
  · obtain rfl : m = q := by omega
    have f2 : Rd w lo 1 A 0 ((bs.drop (2 + m)).map bv) := by
      have hl : bs.length = m + 2 := by simpa using hr.1
      rw [show bs.drop (2 + m) = [] from List.drop_of_length_le (by omega)]
      exact Rd.nil _ _ _ _
    rw [Nat.sub_self]
    have hm0 : ¬ m = 0 := by omega
    subst hcq
    go_enter Try.func20, Try.ntmps20
    go_wp2_with (refine H.out.mono ?_; rintro e w1 ⟨rfl, rfl⟩)
    have e1 : IntKind.i64.wrap (2 + (m : Int)) = 2 + (m : Int) := IntWalk.i64_in _ (by omega)
    have i1 : (0 : Int) ≤ 2 + (m : Int) := by omega
    have i2 : (2 : Int) ≤ 2 + (m : Int) := by omega
    have i3 : 2 + (m : Int) ≤ ((2 + m : Nat) : Int) := by omega
    have i4 : 2 + (m : Int) ≤ ((m + 2 : Nat) : Int) := by omega
    have i5 : (2 + (m : Int)).toNat = 2 + m := by omega
    go_region_with (first
      | (go_at_call 8; (with_reducible refine (twin_any _ _ _ lo _ _ f3 (by omega)).mono ?_); rintro e w2 ⟨D2, d2, rfl, ho2, hb2⟩)
      | (go_at_call 8; (with_reducible refine (twin_any _ _ _ lo _ _ f1 (by omega)).mono ?_); rintro e w1 ⟨D1, d1, rfl, ho1, hb1⟩; have f3 := f2.drew.below hb1))
    all_goals
      go_wp2
      go_ret3
      exact gives_bbi (w := w) (ho1.below hb2).rd (ho1.below hb2).bb (ho2.rd.low hb1.size) (ho2.bb.low hb1.size) ((Below.refl w.heap.size w).drew.trans (Below.trans hb1 (hb2.mono hb1.size)))
  · have f2 := hr.dropB (k := 2 + q) (by omega)
    rw [show m - q = m + 2 - (2 + q) by omega]
    go_enter Try.func20, Try.ntmps20
    go_wp2_with (refine H.out.mono ?_; rintro e w1 ⟨rfl, rfl⟩)
    have e1 : IntKind.i64.wrap (2 + (q : Int)) = 2 + (q : Int) := IntWalk.i64_in _ (by omega)
    have i1 : (0 : Int) ≤ 2 + (q : Int) := by omega
    have i2 : (2 : Int) ≤ 2 + (q : Int) := by omega
    have i3 : 2 + (q : Int) ≤ (c : Int) := by omega
    have i4 : 2 + (q : Int) ≤ ((m + 2 : Nat) : Int) := by omega
    have i5 : (2 + (q : Int)).toNat = 2 + q := by omega
    go_region_with (first
      | (go_at_call 8; (with_reducible refine (twin_any _ _ _ lo _ _ f3 (by omega)).mono ?_); rintro e w2 ⟨D2, d2, rfl, ho2, hb2⟩)
      | (go_at_call 8; (with_reducible refine (twin_any _ _ _ lo _ _ f1 (by omega)).mono ?_); rintro e w1 ⟨D1, d1, rfl, ho1, hb1⟩; have f3 := f2.drew.below hb1))
    all_goals
      go_wp2
      go_ret3
      exact gives_bbi (w := w) (ho1.below hb2).rd (ho1.below hb2).bb (ho2.rd.low hb1.size) (ho2.bb.low hb1.size) ((Below.refl w.heap.size w).drew.trans (Below.trans hb1 (hb2.mono hb1.size)))
end Go.Proofs.Ytffgkjcfffkahaa
