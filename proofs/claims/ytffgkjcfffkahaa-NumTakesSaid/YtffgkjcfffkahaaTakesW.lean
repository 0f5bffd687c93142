/-
  The walk of the law NumTakes: for all bytes and every size it returns true and writes nothing that was there.
-/
import Derived.Test.YtffgkjcfffkahaaNumF
namespace Go.Proofs.Ytffgkjcfffkahaa
open Go.RowKit

theorem takeOf_len (bs : List UInt8) (size : Int) : (takeOf bs size).2.1.length ≤ bs.length := by
  unfold takeOf
  split
  · simp
  · split <;> simp
theorem takePartOf_len (bs : List UInt8) : (takePartOf bs).1.length ≤ bs.length ∧ (takePartOf bs).2.1.length ≤ bs.length := by
  unfold takePartOf
  split
  · simp
  · split
    · simp
    · split
      · simp
      · simp; omega

set_option maxHeartbeats 1000000 in
theorem takes_walk (size : Int) (A : Option Addr) (len cap : Nat) (bs : List UInt8) (w : World) (hr : Rd w 0 1 A len (bs.map bv)) (hc : len ≤ cap) (hlen : len ≤ 6000) :
    Calls Try.prog 4 #[.slice A len cap, .int .i64 size] w fun e w' => e = .returned (.bool true) ∧ Below w.heap.size w w' := by
  have hl : bs.length = len := by simpa using hr.1
  have P1 := fun (A : Option Addr) c lo W h hc => take_any A len c lo bs size W h hc (by omega)
  have P2 := fun (A : Option Addr) c lo W h hc => refTake_any A len c lo bs size W h hc (by omega)
  have Q1 := fun (A : Option Addr) c lo W h hc => takePart_any A len c lo bs W h hc (by omega)
  have Q2 := fun (A : Option Addr) c lo W h hc => refTakePart_any A len c lo bs W h hc (by omega)
  have hL1 : (takeOf bs size).2.1.length ≤ 1000000 := by have := takeOf_len bs size; omega
  have hL2 : (takePartOf bs).1.length ≤ 1000000 := by have := (takePartOf_len bs).1; omega
  have hL3 : (takePartOf bs).2.1.length ≤ 1000000 := by have := (takePartOf_len bs).2; omega
  generalize (takeOf bs size).1 = m at *
  generalize (takeOf bs size).2.1 = xs at *
  generalize (takeOf bs size).2.2 = k at *
  generalize (takePartOf bs).1 = ys at *
  generalize (takePartOf bs).2.1 = zs at *
  generalize (takePartOf bs).2.2 = l at *
  have HP1 := hid P1
  have HP2 := hid P2
  have HQ1 := hid Q1
  have HQ2 := hid Q2
  clear P1 P2 Q1 Q2 hl
  go_enter Try.func4, Try.ntmps4
  go_wp2_with fail
  (with_reducible refine (twin_any A len cap 0 bs w hr (by omega)).mono ?_); rintro e w1 ⟨D, d, rfl, ho1, hb1⟩
  have hr1 := hr.below hb1
  go_wp2_with fail
  (with_reducible refine (HP1.out D d w.heap.size w1 ho1.rd ho1.cap.1).mono ?_); rintro e w2 ⟨E, e1, rfl, ho2, hb2⟩
  go_wp2_with fail
  (with_reducible refine (HP2.out A cap 0 w2 (hr1.below hb2) hc).mono ?_); rintro e w3 ⟨F, f1, rfl, ho3, hb3⟩
  have hb13 := hb2.trans (hb3.mono hb2.size)
  go_wp2_with fail
  (with_reducible refine (HQ1.out D d w.heap.size w3 (ho1.rd.below hb13) ho1.cap.1).mono ?_); rintro e w4 ⟨G, g1, G2, g2, rfl, ra4, ia4, rb4, ib4, hb4⟩
  have hb14 := hb13.trans (hb4.mono hb13.size)
  go_wp2_with fail
  (with_reducible refine (HQ2.out A cap 0 w4 (hr1.below hb14) hc).mono ?_); rintro e w5 ⟨I, i1, I2, i2, rfl, ra5, ia5, rb5, ib5, hb5⟩
  have hb15 := hb14.trans (hb5.mono hb14.size)
  have hb25 := hb3.trans ((hb4.mono hb3.size).trans (hb5.mono (Nat.le_trans hb3.size hb4.size)))
  go_wp2_with fail
  (with_reducible refine (same_yes e1 f1 (ho2.below hb25).rd (ho3.below (hb4.trans (hb5.mono hb4.size))).rd).mono ?_); rintro e v5 ⟨rfl, rfl⟩
  go_wp2_with fail
  (with_reducible refine (same_yes g1 i1 (ra4.below hb5) ra5).mono ?_); rintro e v5 ⟨rfl, rfl⟩
  go_wp2_with fail
  (with_reducible refine (same_yes g2 i2 (rb4.below hb5) rb5).mono ?_); rintro e v5 ⟨rfl, rfl⟩
  go_wp2_with fail
  (with_reducible refine (spoil_any E _ e1 w1.heap.size w5 (ho2.bb.below hb25) hL1).mono ?_); rintro e w6 ⟨rfl, ht6⟩
  have hb16 := hb15.trans ht6.1
  go_wp2_with fail
  (with_reducible refine (spoil_any G _ g1 w1.heap.size w6 (((ia4.below hb5).low hb13.size).touch ht6) hL2).mono ?_); rintro e w7 ⟨rfl, ht7⟩
  have hb17 := hb16.trans ht7.1
  go_wp2_with fail
  (with_reducible refine (spoil_any G2 _ g2 w1.heap.size w7 ((((ib4.below hb5).low hb13.size).touch ht6).touch ht7) hL3).mono ?_); rintro e w8 ⟨rfl, ht8⟩
  have hb18 := hb17.trans ht8.1
  go_wp2_with fail
  (with_reducible refine (same_yes d cap (ho1.rd.below hb18) (hr1.below hb18)).mono ?_); rintro e v8 ⟨rfl, rfl⟩
  go_wp2_with fail
  go_ret
  exact ⟨rfl, hb1.trans (hb18.mono hb1.size)⟩

set_option maxHeartbeats 400000 in
theorem takes_big (size : Int) (A : Option Addr) (len cap : Nat) (w : World) (hlen : 6000 < len) :
    Calls Try.prog 4 #[.slice A len cap, .int .i64 size] w fun e w' => e = .returned (.bool true) ∧ Below w.heap.size w w' := by
  go_enter Try.func4, Try.ntmps4
  go_wp2
  go_ret
  exact ⟨rfl, Below.refl _ _⟩

theorem numTakes_law {w : World} (A : Option Addr) (len cap : Nat) (zs : List Int) (h : IsRow .u8 w A len cap zs) (size : Int) (_hs : (Lit.int .i64 size).wf = true) :
    Calls Try.prog 4 #[.slice A len cap, .int .i64 size] w fun e w' => e = .returned (.bool true) ∧ Below w.heap.size w w' := by
  obtain ⟨hc, bs, hr⟩ := isRow_rd h
  by_cases hl : len ≤ 6000
  · exact takes_walk size A len cap bs w hr hc hl
  · exact takes_big _ A len cap w (by omega)
end Go.Proofs.Ytffgkjcfffkahaa
