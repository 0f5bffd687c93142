/-
  The walk of the law NumPuts: for every number, size and bytes it returns true and writes nothing that was there.
-/
import Derived.Test.YtffgkjcfffkahaaNumF
namespace Go.Proofs.Ytffgkjcfffkahaa
open Go.RowKit

set_option maxHeartbeats 1000000 in
theorem puts_walk (n : Nat) (size : Int) (A : Option Addr) (len cap : Nat) (bs : List UInt8) (w : World) (hn : n < 18446744073709551616) (hr : Rd w 0 1 A len (bs.map bv)) (hlen : len ≤ 6000) :
    Calls Try.prog 3 #[.int .u64 n, .int .i64 size, .slice A len cap] w fun e w' => e = .returned (.bool true) ∧ Below w.heap.size w w' := by
  have P1 := fun W => put_any n size W hn
  have P2 := fun W => refPut_any n size W hn
  have Q1 := fun (A : Option Addr) c lo W h => putPart_any A len c lo bs W h
  have Q2 := fun (A : Option Addr) c lo W h => refPutPart_any A len c lo bs W h
  have hL1 : (putOf n size).1.length ≤ 1000000 := by
    unfold putOf
    repeat (split; · simp)
    simp [be_length]
    omega
  have hL2 : (putPartOf bs).1.length ≤ 1000000 := by
    have hl : bs.length = len := by simpa using hr.1
    unfold putPartOf
    split
    · simp
    · simp [be_length]
      omega
  generalize (putOf n size).1 = xs at *
  generalize (putOf n size).2 = k at *
  generalize (putPartOf bs).1 = ys at *
  generalize (putPartOf bs).2 = l at *
  have HP1 := hid P1
  have HP2 := hid P2
  have HQ1 := hid Q1
  have HQ2 := hid Q2
  clear P1 P2 Q1 Q2
  go_enter Try.func3, Try.ntmps3
  go_wp2_with fail
  (with_reducible refine (twin_any A len cap 0 bs w hr (by omega)).mono ?_); rintro e w1 ⟨D, d, rfl, ho1, hb1⟩
  have hr1 := hr.below hb1
  go_wp2_with fail
  (with_reducible refine (HP1.out w1).mono ?_); rintro e w2 ⟨E, e1, rfl, ho2, hb2⟩
  go_wp2_with fail
  (with_reducible refine (HP2.out w2).mono ?_); rintro e w3 ⟨F, f1, rfl, ho3, hb3⟩
  have hb13 := hb2.trans (hb3.mono hb2.size)
  go_wp2_with fail
  (with_reducible refine (HQ1.out D d w.heap.size w3 (ho1.rd.below hb13)).mono ?_); rintro e w4 ⟨G, g1, rfl, ho4, hb4⟩
  have hb14 := hb13.trans (hb4.mono hb13.size)
  go_wp2_with fail
  (with_reducible refine (HQ2.out A cap 0 w4 (hr1.below hb14)).mono ?_); rintro e w5 ⟨I, i1, rfl, ho5, hb5⟩
  have hb15 := hb14.trans (hb5.mono hb14.size)
  go_wp2_with fail
  have hb25 := hb3.trans ((hb4.mono hb3.size).trans (hb5.mono (Nat.le_trans hb3.size hb4.size)))
  (with_reducible refine (same_yes e1 f1 (ho2.below hb25).rd (ho3.below (hb4.trans (hb5.mono hb4.size))).rd).mono ?_); rintro e v5 ⟨rfl, rfl⟩
  go_wp2_with fail
  (with_reducible refine (same_yes g1 i1 (ho4.below hb5).rd ho5.rd).mono ?_); rintro e v5 ⟨rfl, rfl⟩
  go_wp2_with fail
  (with_reducible refine (end_any D len d w5).mono ?_); rintro e v5 ⟨rfl, rfl⟩
  go_wp2_with fail
  (with_reducible refine (refEnd_any A len cap w5).mono ?_); rintro e v5 ⟨rfl, rfl⟩
  go_wp2_with fail
  (with_reducible refine (spoil_any E _ e1 w1.heap.size w5 (ho2.bb.below hb25) hL1).mono ?_); rintro e w6 ⟨rfl, ht6⟩
  have hb16 := hb15.trans ht6.1
  go_wp2_with fail
  (with_reducible refine (spoil_any G _ g1 w1.heap.size w6 (((ho4.bb.below hb5).low hb13.size).touch ht6) hL2).mono ?_); rintro e w7 ⟨rfl, ht7⟩
  have hb17 := hb16.trans ht7.1
  go_wp2_with fail
  (with_reducible refine (same_yes d cap (ho1.rd.below hb17) (hr1.below hb17)).mono ?_); rintro e v7 ⟨rfl, rfl⟩
  go_wp2_with fail
  go_ret
  exact ⟨rfl, hb1.trans (hb17.mono hb1.size)⟩

set_option maxHeartbeats 400000 in
theorem puts_big (n : Int) (size : Int) (A : Option Addr) (len cap : Nat) (w : World) (hlen : 6000 < len) :
    Calls Try.prog 3 #[.int .u64 n, .int .i64 size, .slice A len cap] w fun e w' => e = .returned (.bool true) ∧ Below w.heap.size w w' := by
  go_enter Try.func3, Try.ntmps3
  go_wp2
  go_ret
  exact ⟨rfl, Below.refl _ _⟩

theorem numPuts_law {w : World} (n : Int) (hn : (Lit.int .u64 n).wf = true) (size : Int) (_hs : (Lit.int .i64 size).wf = true) (A : Option Addr) (len cap : Nat) (zs : List Int) (h : IsRow .u8 w A len cap zs) :
    Calls Try.prog 3 #[.int .u64 n, .int .i64 size, .slice A len cap] w fun e w' => e = .returned (.bool true) ∧ Below w.heap.size w w' := by
  obtain ⟨m, rfl, hm⟩ := u64_wf hn
  obtain ⟨_, bs, hr⟩ := isRow_rd h
  by_cases hl : len ≤ 6000
  · exact puts_walk m size A len cap bs w hm hr hl
  · exact puts_big _ size A len cap w (by omega)
end Go.Proofs.Ytffgkjcfffkahaa
