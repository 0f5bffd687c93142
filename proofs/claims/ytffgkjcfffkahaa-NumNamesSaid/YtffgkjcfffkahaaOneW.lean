/-
  The walk of the law NumOne: for all bytes and every size it returns true and writes nothing that was there.
-/
import Derived.Test.YtffgkjcfffkahaaBackW
import Derived.Test.YtffgkjcfffkahaaApg
namespace Go.Proofs.Ytffgkjcfffkahaa
open Go.RowKit

theorem takeOf_val {bs : List UInt8} {size : Int} {n : Nat} {us : List UInt8} {k : Int} (h : takeOf bs size = (n, us, k)) : n < 18446744073709551616 := by
  unfold takeOf at h
  by_cases h1 : size < 1 ∨ 8 < size
  · rw [if_pos h1] at h
    simp only [Prod.mk.injEq] at h
    omega
  rw [if_neg h1] at h
  by_cases h2 : bs.length < size.toNat
  · rw [if_pos h2] at h
    simp only [Prod.mk.injEq] at h
    omega
  rw [if_neg h2] at h
  simp only [Prod.mk.injEq] at h
  rw [← h.1]
  exact val_lt8 _ (by rw [List.length_take]; omega)
theorem takeOf_len (bs : List UInt8) (size : Int) : (takeOf bs size).2.1.length ≤ bs.length := by
  unfold takeOf
  split
  · simp
  · split <;> simp
theorem takePartOf_len (bs : List UInt8) : (takePartOf bs).1.length ≤ bs.length ∧ (takePartOf bs).2.1.length ≤ bs.length := by
  unfold takePartOf
  split
  · simp
  · split
    · simp
    · split
      · simp
      · simp; omega

set_option maxHeartbeats 1000000 in
theorem one_yy (size : Int) (B : Option Addr) (l q : Nat) (ps : List UInt8) (w : World) (hp : Rd w 0 1 B l (ps.map bv)) (hlq : l ≤ q) (hl : l ≤ 5000)
    (n : Nat) (us : List UInt8) (hx : takeOf ps size = (n, us, 0)) (ts vs : List UInt8) (hy : takePartOf ps = (ts, vs, 0)) :
    Calls Try.prog 6 #[.slice B l q, .int .i64 size] w fun e w' => e = .returned (.bool true) ∧ Below w.heap.size w w' := by
  obtain ⟨i0, hi0, hz0, hz1, hz2⟩ := info_parts u8_info
  have hlp : ps.length = l := by simpa using hp.1
  have hnl : n < 18446744073709551616 := takeOf_val hx
  have hul : us.length ≤ 5000 := by have := takeOf_len ps size; rw [hx] at this; simp only at this; omega
  have T : ∀ A k lo W, Rd W lo 1 A l (ps.map bv) → l ≤ k → Calls Try.prog 17 #[.slice A l k, .int .i64 size] W (GivesNBI W n us.length us 0) := fun A k lo W h hk => take_at ps size n us 0 hx (by omega) A l k lo W h hk
  obtain ⟨xs, hx2, hxu'⟩ := put_take hx
  have hxl : xs.length ≤ 8 := putOf_len hx2
  have P : ∀ W, Calls Try.prog 9 #[.int .u64 n, .int .i64 size] W (GivesBI W xs.length xs 0) := fun W => put_at n size xs 0 hnl hx2 W
  have HP := hid P
  have hxu := hid hxu'
  clear P hx2 hxu' hx
  have HT1 := hid T
  clear T
  have T2 : ∀ A k lo W, Rd W lo 1 A l (ps.map bv) → l ≤ k → Calls Try.prog 19 #[.slice A l k] W (GivesBBI W ts.length vs.length ts vs 0) := fun A k lo W h hk => takePart_at ps ts vs 0 hy (by omega) A l k lo W h hk
  have HT2 := hid T2
  clear T2
  have hvl : vs.length ≤ 5000 := by have := (takePartOf_len ps).2; rw [hy] at this; simp only at this; omega
  obtain ⟨ys, hy2, hyv'⟩ := putPart_take hy
  have hyl : ys.length ≤ 4098 := putPartOf_len hy2
  have Q : ∀ A k lo W, Rd W lo 1 A ts.length (ts.map bv) → Calls Try.prog 11 #[.slice A ts.length k] W (GivesBI W ys.length ys 0) := fun A k lo W h => putPart_at ts ys 0 hy2 A _ k lo W h
  have HQ := hid Q
  have hyv := hid hyv'
  clear Q hy2 hyv'
  clear hy hlp
  go_enter Try.func6, Try.ntmps6
  go_wp2_with fail
  (with_reducible refine (alive_any w).mono ?_); rintro e w1 ⟨rfl, hb1⟩
  have hp1 := hp.below hb1
  go_wp2_with fail
  (with_reducible refine (HT1.out B q 0 w1 hp1 hlq).mono ?_); rintro e w2 ⟨E, e1, rfl, ho2, hb2⟩
  go_wp2_with fail
  (with_reducible refine (HP.out w2).mono ?_); rintro e w3 ⟨D, d, rfl, ho3, hb3⟩
  have hb13 := hb2.trans (hb3.mono hb2.size)
  go_wp2_with (at_builtin; refine wpList_app_g _ (by rfl) _ _ _ rfl w1.heap.size 5 i0 _ 1 1 Try.underlying23 hi0 hz0 hz1 hz2 rfl (by omega) D xs.length d (xs.map bv) rfl (ho3.low hb2.size) E us.length e1 w1.heap.size (us.map bv) rfl (ho2.below hb3).rd (bv_one _) (by simp only [maxLen]; omega) (by omega) hb13.size ?_; intro D2 d2 w4 ho4 hg4 ht4)
  have hb14 := (ho3.low hb2.size).grows hg4 hb13 hb13.size
  rw [← List.map_append, hxu.out] at ho4
  (with_reducible refine (same_yes d2 q ho4.rd (hp1.below hb14)).mono ?_); rintro e v4 ⟨rfl, rfl⟩
  go_wp2_with fail
  (with_reducible refine (HT2.out B q 0 w4 (hp1.below hb14) hlq).mono ?_); rintro e w5 ⟨I, i1, J, j1, rfl, ra, ia, rb, ib, hb5⟩
  have hb15 := hb14.trans (hb5.mono hb14.size)
  go_wp2_with fail
  (with_reducible refine (HQ.out I i1 _ w5 ra).mono ?_); rintro e w6 ⟨G, g1, rfl, ho6, hb6⟩
  have hb16 := hb15.trans (hb6.mono hb15.size)
  go_wp2_with (at_builtin; refine wpList_app_g _ (by rfl) _ _ _ rfl w1.heap.size 5 i0 _ 1 1 Try.underlying23 hi0 hz0 hz1 hz2 rfl (by omega) G ys.length g1 (ys.map bv) rfl (ho6.low hb15.size) J vs.length j1 w4.heap.size (vs.map bv) rfl (rb.below hb6) (bv_one _) (by simp only [maxLen]; omega) (by omega) hb16.size ?_; intro G2 g2 w7 ho7 hg7 ht7)
  have hb17 := (ho6.low hb15.size).grows hg7 hb16 hb16.size
  rw [← List.map_append, hyv.out] at ho7
  (with_reducible refine (same_yes g2 q ho7.rd (hp1.below hb17)).mono ?_); rintro e v7 ⟨rfl, rfl⟩
  go_wp2_with fail
  go_ret
  exact ⟨rfl, below_step hb1 hb17⟩

set_option maxHeartbeats 1000000 in
theorem one_yn (size : Int) (B : Option Addr) (l q : Nat) (ps : List UInt8) (w : World) (hp : Rd w 0 1 B l (ps.map bv)) (hlq : l ≤ q) (hl : l ≤ 5000)
    (n : Nat) (us : List UInt8) (hx : takeOf ps size = (n, us, 0)) (ts vs : List UInt8) (k2 : Int) (hy : takePartOf ps = (ts, vs, k2)) (hk2 : (k2 != 0) = true) :
    Calls Try.prog 6 #[.slice B l q, .int .i64 size] w fun e w' => e = .returned (.bool true) ∧ Below w.heap.size w w' := by
  obtain ⟨i0, hi0, hz0, hz1, hz2⟩ := info_parts u8_info
  have hlp : ps.length = l := by simpa using hp.1
  have hnl : n < 18446744073709551616 := takeOf_val hx
  have hul : us.length ≤ 5000 := by have := takeOf_len ps size; rw [hx] at this; simp only at this; omega
  have T : ∀ A k lo W, Rd W lo 1 A l (ps.map bv) → l ≤ k → Calls Try.prog 17 #[.slice A l k, .int .i64 size] W (GivesNBI W n us.length us 0) := fun A k lo W h hk => take_at ps size n us 0 hx (by omega) A l k lo W h hk
  obtain ⟨xs, hx2, hxu'⟩ := put_take hx
  have hxl : xs.length ≤ 8 := putOf_len hx2
  have P : ∀ W, Calls Try.prog 9 #[.int .u64 n, .int .i64 size] W (GivesBI W xs.length xs 0) := fun W => put_at n size xs 0 hnl hx2 W
  have HP := hid P
  have hxu := hid hxu'
  clear P hx2 hxu' hx
  have HT1 := hid T
  clear T
  have T2 : ∀ A k lo W, Rd W lo 1 A l (ps.map bv) → l ≤ k → Calls Try.prog 19 #[.slice A l k] W (GivesBBI W ts.length vs.length ts vs k2) := fun A k lo W h hk => takePart_at ps ts vs k2 hy (by omega) A l k lo W h hk
  have HT2 := hid T2
  clear T2
  clear hy hlp
  go_enter Try.func6, Try.ntmps6
  go_wp2_with fail
  (with_reducible refine (alive_any w).mono ?_); rintro e w1 ⟨rfl, hb1⟩
  have hp1 := hp.below hb1
  go_wp2_with fail
  (with_reducible refine (HT1.out B q 0 w1 hp1 hlq).mono ?_); rintro e w2 ⟨E, e1, rfl, ho2, hb2⟩
  go_wp2_with fail
  (with_reducible refine (HP.out w2).mono ?_); rintro e w3 ⟨D, d, rfl, ho3, hb3⟩
  have hb13 := hb2.trans (hb3.mono hb2.size)
  go_wp2_with (at_builtin; refine wpList_app_g _ (by rfl) _ _ _ rfl w1.heap.size 5 i0 _ 1 1 Try.underlying23 hi0 hz0 hz1 hz2 rfl (by omega) D xs.length d (xs.map bv) rfl (ho3.low hb2.size) E us.length e1 w1.heap.size (us.map bv) rfl (ho2.below hb3).rd (bv_one _) (by simp only [maxLen]; omega) (by omega) hb13.size ?_; intro D2 d2 w4 ho4 hg4 ht4)
  have hb14 := (ho3.low hb2.size).grows hg4 hb13 hb13.size
  rw [← List.map_append, hxu.out] at ho4
  (with_reducible refine (same_yes d2 q ho4.rd (hp1.below hb14)).mono ?_); rintro e v4 ⟨rfl, rfl⟩
  go_wp2_with fail
  (with_reducible refine (HT2.out B q 0 w4 (hp1.below hb14) hlq).mono ?_); rintro e w5 ⟨I, i1, J, j1, rfl, ra, ia, rb, ib, hb5⟩
  have hb15 := hb14.trans (hb5.mono hb14.size)
  go_wp2_with fail
  go_ret
  exact ⟨rfl, below_step hb1 hb15⟩

set_option maxHeartbeats 1000000 in
theorem one_ny (size : Int) (B : Option Addr) (l q : Nat) (ps : List UInt8) (w : World) (hp : Rd w 0 1 B l (ps.map bv)) (hlq : l ≤ q) (hl : l ≤ 5000)
    (n : Nat) (us : List UInt8) (k1 : Int) (hx : takeOf ps size = (n, us, k1)) (hk1 : (k1 == 0) = false) (ts vs : List UInt8) (hy : takePartOf ps = (ts, vs, 0)) :
    Calls Try.prog 6 #[.slice B l q, .int .i64 size] w fun e w' => e = .returned (.bool true) ∧ Below w.heap.size w w' := by
  obtain ⟨i0, hi0, hz0, hz1, hz2⟩ := info_parts u8_info
  have hlp : ps.length = l := by simpa using hp.1
  have T : ∀ A k lo W, Rd W lo 1 A l (ps.map bv) → l ≤ k → Calls Try.prog 17 #[.slice A l k, .int .i64 size] W (GivesNBI W n us.length us k1) := fun A k lo W h hk => take_at ps size n us k1 hx (by omega) A l k lo W h hk
  clear hx
  have HT1 := hid T
  clear T
  have T2 : ∀ A k lo W, Rd W lo 1 A l (ps.map bv) → l ≤ k → Calls Try.prog 19 #[.slice A l k] W (GivesBBI W ts.length vs.length ts vs 0) := fun A k lo W h hk => takePart_at ps ts vs 0 hy (by omega) A l k lo W h hk
  have HT2 := hid T2
  clear T2
  have hvl : vs.length ≤ 5000 := by have := (takePartOf_len ps).2; rw [hy] at this; simp only at this; omega
  obtain ⟨ys, hy2, hyv'⟩ := putPart_take hy
  have hyl : ys.length ≤ 4098 := putPartOf_len hy2
  have Q : ∀ A k lo W, Rd W lo 1 A ts.length (ts.map bv) → Calls Try.prog 11 #[.slice A ts.length k] W (GivesBI W ys.length ys 0) := fun A k lo W h => putPart_at ts ys 0 hy2 A _ k lo W h
  have HQ := hid Q
  have hyv := hid hyv'
  clear Q hy2 hyv'
  clear hy hlp
  go_enter Try.func6, Try.ntmps6
  go_wp2_with fail
  (with_reducible refine (alive_any w).mono ?_); rintro e w1 ⟨rfl, hb1⟩
  have hp1 := hp.below hb1
  go_wp2_with fail
  (with_reducible refine (HT1.out B q 0 w1 hp1 hlq).mono ?_); rintro e w4 ⟨E, e1, rfl, ho2, hb14⟩
  go_wp2_with fail
  (with_reducible refine (HT2.out B q 0 w4 (hp1.below hb14) hlq).mono ?_); rintro e w5 ⟨I, i1, J, j1, rfl, ra, ia, rb, ib, hb5⟩
  have hb15 := hb14.trans (hb5.mono hb14.size)
  go_wp2_with fail
  (with_reducible refine (HQ.out I i1 _ w5 ra).mono ?_); rintro e w6 ⟨G, g1, rfl, ho6, hb6⟩
  have hb16 := hb15.trans (hb6.mono hb15.size)
  go_wp2_with (at_builtin; refine wpList_app_g _ (by rfl) _ _ _ rfl w1.heap.size 5 i0 _ 1 1 Try.underlying23 hi0 hz0 hz1 hz2 rfl (by omega) G ys.length g1 (ys.map bv) rfl (ho6.low hb15.size) J vs.length j1 w4.heap.size (vs.map bv) rfl (rb.below hb6) (bv_one _) (by simp only [maxLen]; omega) (by omega) hb16.size ?_; intro G2 g2 w7 ho7 hg7 ht7)
  have hb17 := (ho6.low hb15.size).grows hg7 hb16 hb16.size
  rw [← List.map_append, hyv.out] at ho7
  (with_reducible refine (same_yes g2 q ho7.rd (hp1.below hb17)).mono ?_); rintro e v7 ⟨rfl, rfl⟩
  go_wp2_with fail
  go_ret
  exact ⟨rfl, below_step hb1 hb17⟩

set_option maxHeartbeats 1000000 in
theorem one_nn (size : Int) (B : Option Addr) (l q : Nat) (ps : List UInt8) (w : World) (hp : Rd w 0 1 B l (ps.map bv)) (hlq : l ≤ q) (hl : l ≤ 5000)
    (n : Nat) (us : List UInt8) (k1 : Int) (hx : takeOf ps size = (n, us, k1)) (hk1 : (k1 == 0) = false) (ts vs : List UInt8) (k2 : Int) (hy : takePartOf ps = (ts, vs, k2)) (hk2 : (k2 != 0) = true) :
    Calls Try.prog 6 #[.slice B l q, .int .i64 size] w fun e w' => e = .returned (.bool true) ∧ Below w.heap.size w w' := by
  obtain ⟨i0, hi0, hz0, hz1, hz2⟩ := info_parts u8_info
  have hlp : ps.length = l := by simpa using hp.1
  have T : ∀ A k lo W, Rd W lo 1 A l (ps.map bv) → l ≤ k → Calls Try.prog 17 #[.slice A l k, .int .i64 size] W (GivesNBI W n us.length us k1) := fun A k lo W h hk => take_at ps size n us k1 hx (by omega) A l k lo W h hk
  clear hx
  have HT1 := hid T
  clear T
  have T2 : ∀ A k lo W, Rd W lo 1 A l (ps.map bv) → l ≤ k → Calls Try.prog 19 #[.slice A l k] W (GivesBBI W ts.length vs.length ts vs k2) := fun A k lo W h hk => takePart_at ps ts vs k2 hy (by omega) A l k lo W h hk
  have HT2 := hid T2
  clear T2
  clear hy hlp
  go_enter Try.func6, Try.ntmps6
  go_wp2_with fail
  (with_reducible refine (alive_any w).mono ?_); rintro e w1 ⟨rfl, hb1⟩
  have hp1 := hp.below hb1
  go_wp2_with fail
  (with_reducible refine (HT1.out B q 0 w1 hp1 hlq).mono ?_); rintro e w4 ⟨E, e1, rfl, ho2, hb14⟩
  go_wp2_with fail
  (with_reducible refine (HT2.out B q 0 w4 (hp1.below hb14) hlq).mono ?_); rintro e w5 ⟨I, i1, J, j1, rfl, ra, ia, rb, ib, hb5⟩
  have hb15 := hb14.trans (hb5.mono hb14.size)
  go_wp2_with fail
  go_ret
  exact ⟨rfl, below_step hb1 hb15⟩

set_option maxHeartbeats 400000 in
theorem one_big (size : Int) (B : Option Addr) (l q : Nat) (w : World) (h : 5000 < l) :
    Calls Try.prog 6 #[.slice B l q, .int .i64 size] w fun e w' => e = .returned (.bool true) ∧ Below w.heap.size w w' := by
  go_enter Try.func6, Try.ntmps6
  go_wp2_with fail
  (with_reducible refine (alive_any w).mono ?_); rintro e w1 ⟨rfl, hb1⟩
  go_wp2_with fail
  go_ret
  exact ⟨rfl, hb1⟩

theorem numOne_law {w : World} (B : Option Addr) (l q : Nat) (zs : List Int) (h : IsRow .u8 w B l q zs) (size : Int) (_hs : (Lit.int .i64 size).wf = true) :
    Calls Try.prog 6 #[.slice B l q, .int .i64 size] w fun e w' => e = .returned (.bool true) ∧ Below w.heap.size w w' := by
  obtain ⟨hlq, ps, hp⟩ := isRow_rd h
  by_cases hl : l ≤ 5000
  · by_cases h1 : (takeOf ps size).2.2 = 0
    · have hx : takeOf ps size = ((takeOf ps size).1, (takeOf ps size).2.1, 0) := by rw [← h1]
      by_cases h2 : (takePartOf ps).2.2 = 0
      · have hy : takePartOf ps = ((takePartOf ps).1, (takePartOf ps).2.1, 0) := by rw [← h2]
        exact one_yy size B l q ps w hp hlq hl _ _ hx _ _ hy
      · exact one_yn size B l q ps w hp hlq hl _ _ hx _ _ _ rfl (bne_iff_ne.2 h2)
    · have hk := beq_eq_false_iff_ne.2 h1
      by_cases h2 : (takePartOf ps).2.2 = 0
      · have hy : takePartOf ps = ((takePartOf ps).1, (takePartOf ps).2.1, 0) := by rw [← h2]
        exact one_ny size B l q ps w hp hlq hl _ _ _ rfl hk _ _ hy
      · exact one_nn size B l q ps w hp hlq hl _ _ _ rfl hk _ _ _ rfl (bne_iff_ne.2 h2)
  · exact one_big _ B l q w (by omega)
end Go.Proofs.Ytffgkjcfffkahaa
