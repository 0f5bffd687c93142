/-
  The walk of the law NumBack: for every number, size, part and bytes behind it returns true and writes nothing that was there.
-/
import Derived.Test.YtffgkjcfffkahaaNumH
namespace Go.Proofs.Ytffgkjcfffkahaa
open Go.RowKit

theorem putOf_len {n : Nat} {size : Int} {xs : List UInt8} {k : Int} (h : putOf n size = (xs, k)) : xs.length ≤ 8 := by
  unfold putOf at h
  by_cases h1 : size < 1 ∨ 8 < size
  · rw [if_pos h1] at h
    simp only [Prod.mk.injEq] at h
    rw [← h.1]
    simp
  rw [if_neg h1] at h
  by_cases h2 : 256 ^ size.toNat ≤ n
  · rw [if_pos h2] at h
    simp only [Prod.mk.injEq] at h
    rw [← h.1]
    simp
  rw [if_neg h2] at h
  simp only [Prod.mk.injEq] at h
  rw [← h.1, be_length]
  omega
theorem putPartOf_len {p xs : List UInt8} {k : Int} (h : putPartOf p = (xs, k)) : xs.length ≤ 4098 := by
  unfold putPartOf at h
  by_cases h1 : 4096 < p.length
  · rw [if_pos h1] at h
    simp only [Prod.mk.injEq] at h
    rw [← h.1]
    simp
  rw [if_neg h1] at h
  simp only [Prod.mk.injEq] at h
  rw [← h.1, List.length_append, be_length]
  omega

set_option maxHeartbeats 1000000 in
theorem back_yy (n : Nat) (size : Int) (B : Option Addr) (l q : Nat) (ps : List UInt8) (C : Option Addr) (m c : Nat) (rs : List UInt8) (w : World) (hn : n < 18446744073709551616) (hp : Rd w 0 1 B l (ps.map bv)) (hc : Rd w 0 1 C m (rs.map bv)) (hl : l ≤ 5000) (hm : m ≤ 5000)
    (xs : List UInt8) (hx : putOf n size = (xs, 0)) (ys : List UInt8) (hy : putPartOf ps = (ys, 0)) :
    Calls Try.prog 5 #[.int .u64 n, .int .i64 size, .slice B l q, .slice C m c] w fun e w' => e = .returned (.bool true) ∧ Below w.heap.size w w' := by
  obtain ⟨i0, hi0, hz0, hz1, hz2⟩ := info_parts u8_info
  have hlp : ps.length = l := by simpa using hp.1
  have hlr : rs.length = m := by simpa using hc.1
  have hxl : xs.length ≤ 8 := putOf_len hx
  have P : ∀ W, Calls Try.prog 9 #[.int .u64 n, .int .i64 size] W (GivesBI W xs.length xs 0) := fun W => put_at n size xs 0 hn hx W
  have T : ∀ A a k lo W, Rd W lo 1 A a ((xs ++ rs).map bv) → a ≤ k → Calls Try.prog 17 #[.slice A a k, .int .i64 size] W (GivesNBI W n m rs 0) := fun A a k lo W h hk => hlr ▸ take_at (xs ++ rs) size n rs 0 (take_put hx rs) (by simp; omega) A a k lo W h hk
  have HT1 := hid T
  clear T hx
  have HP := hid P
  clear P
  have hyl : ys.length ≤ 5000 := by have := putPartOf_len hy; omega
  have Q : ∀ A k lo W, Rd W lo 1 A l (ps.map bv) → Calls Try.prog 11 #[.slice A l k] W (GivesBI W ys.length ys 0) := fun A k lo W h => putPart_at ps ys 0 hy A l k lo W h
  have T : ∀ A a k lo W, Rd W lo 1 A a ((ys ++ rs).map bv) → a ≤ k → Calls Try.prog 19 #[.slice A a k] W (GivesBBI W l m ps rs 0) := fun A a k lo W h hk => by
    have := takePart_at (ys ++ rs) ps rs 0 (takePart_put hy rs) (by simp; omega) A a k lo W h hk
    rw [hlp, hlr] at this
    exact this
  have HT2 := hid T
  clear T hy
  have HQ := hid Q
  clear Q hlp hlr
  go_enter Try.func5, Try.ntmps5
  go_wp2_with fail
  (with_reducible refine (alive_any w).mono ?_); rintro e w1 ⟨rfl, hb1⟩
  have hp1 := hp.below hb1
  have hc1 := hc.below hb1
  go_wp2_with fail
  (with_reducible refine (HP.out w1).mono ?_); rintro e w2 ⟨D, d, rfl, ho2, hb2⟩
  go_wp2_with (at_builtin; refine wpList_app _ rfl _ _ _ rfl w1.heap.size 5 i0 _ 1 1 Try.underlying23 hi0 hz0 hz1 hz2 rfl (by omega) D xs.length d (xs.map bv) rfl ho2 C m c 0 (rs.map bv) rfl (hc1.below hb2) (bv_one _) (by simp only [maxLen]; omega) (by omega) hb2.size ?_; intro D2 d2 w3 ho3 hg3 ht3)
  have hb13 := ho2.grows hg3 hb2 hb2.size
  rw [← List.map_append] at ho3
  (with_reducible refine (HT1.out D2 _ d2 w1.heap.size w3 ho3.rd ho3.cap.1).mono ?_); rintro e w4 ⟨E, e1, rfl, ho4, hb4⟩
  have hb14 := hb13.trans (hb4.mono hb13.size)
  go_wp2_with fail
  (with_reducible refine (same_yes e1 c ho4.rd (hc1.below hb14)).mono ?_); rintro e v4 ⟨rfl, rfl⟩
  go_wp2_with fail
  (with_reducible refine (HQ.out B q 0 w4 (hp1.below hb14)).mono ?_); rintro e w5 ⟨G, g1, rfl, ho5, hb5⟩
  have hb15 := hb14.trans (hb5.mono hb14.size)
  go_wp2_with (at_builtin; refine wpList_app _ rfl _ _ _ rfl w1.heap.size 5 i0 _ 1 1 Try.underlying23 hi0 hz0 hz1 hz2 rfl (by omega) G ys.length g1 (ys.map bv) rfl (ho5.low hb14.size) C m c 0 (rs.map bv) rfl (hc1.below hb15) (bv_one _) (by simp only [maxLen]; omega) (by omega) hb15.size ?_; intro G2 g2 w6 ho6 hg6 ht6)
  have hb16 := (ho5.low hb14.size).grows hg6 hb15 hb15.size
  rw [← List.map_append] at ho6
  (with_reducible refine (HT2.out G2 _ g2 w1.heap.size w6 ho6.rd ho6.cap.1).mono ?_); rintro e w7 ⟨I, i1, J, j1, rfl, ra, ia, rb, ib, hb7⟩
  have hb17 := hb16.trans (hb7.mono hb16.size)
  go_wp2_with fail
  (with_reducible refine (same_yes i1 q ra (hp1.below hb17)).mono ?_); rintro e v7 ⟨rfl, rfl⟩
  go_wp2_with fail
  (with_reducible refine (same_yes j1 c rb (hc1.below hb17)).mono ?_); rintro e v7 ⟨rfl, rfl⟩
  go_wp2_with fail
  go_ret
  exact ⟨rfl, below_step hb1 hb17⟩

set_option maxHeartbeats 1000000 in
theorem back_yn (n : Nat) (size : Int) (B : Option Addr) (l q : Nat) (ps : List UInt8) (C : Option Addr) (m c : Nat) (rs : List UInt8) (w : World) (hn : n < 18446744073709551616) (hp : Rd w 0 1 B l (ps.map bv)) (hc : Rd w 0 1 C m (rs.map bv)) (hl : l ≤ 5000) (hm : m ≤ 5000)
    (xs : List UInt8) (hx : putOf n size = (xs, 0)) (hy : putPartOf ps = ([], 4)) (h4 : 4096 < ps.length) :
    Calls Try.prog 5 #[.int .u64 n, .int .i64 size, .slice B l q, .slice C m c] w fun e w' => e = .returned (.bool true) ∧ Below w.heap.size w w' := by
  obtain ⟨i0, hi0, hz0, hz1, hz2⟩ := info_parts u8_info
  have hlp : ps.length = l := by simpa using hp.1
  have hlr : rs.length = m := by simpa using hc.1
  have hxl : xs.length ≤ 8 := putOf_len hx
  have P : ∀ W, Calls Try.prog 9 #[.int .u64 n, .int .i64 size] W (GivesBI W xs.length xs 0) := fun W => put_at n size xs 0 hn hx W
  have T : ∀ A a k lo W, Rd W lo 1 A a ((xs ++ rs).map bv) → a ≤ k → Calls Try.prog 17 #[.slice A a k, .int .i64 size] W (GivesNBI W n m rs 0) := fun A a k lo W h hk => hlr ▸ take_at (xs ++ rs) size n rs 0 (take_put hx rs) (by simp; omega) A a k lo W h hk
  have HT1 := hid T
  clear T hx
  have HP := hid P
  clear P
  have hl4 : 4096 < l := by omega
  have Q : ∀ A k lo W, Rd W lo 1 A l (ps.map bv) → Calls Try.prog 11 #[.slice A l k] W (GivesBI W 0 [] 4) := fun A k lo W h => putPart_at ps [] 4 hy A l k lo W h
  clear hy
  have HQ := hid Q
  clear Q hlp hlr
  go_enter Try.func5, Try.ntmps5
  go_wp2_with fail
  (with_reducible refine (alive_any w).mono ?_); rintro e w1 ⟨rfl, hb1⟩
  have hp1 := hp.below hb1
  have hc1 := hc.below hb1
  go_wp2_with fail
  (with_reducible refine (HP.out w1).mono ?_); rintro e w2 ⟨D, d, rfl, ho2, hb2⟩
  go_wp2_with (at_builtin; refine wpList_app _ rfl _ _ _ rfl w1.heap.size 5 i0 _ 1 1 Try.underlying23 hi0 hz0 hz1 hz2 rfl (by omega) D xs.length d (xs.map bv) rfl ho2 C m c 0 (rs.map bv) rfl (hc1.below hb2) (bv_one _) (by simp only [maxLen]; omega) (by omega) hb2.size ?_; intro D2 d2 w3 ho3 hg3 ht3)
  have hb13 := ho2.grows hg3 hb2 hb2.size
  rw [← List.map_append] at ho3
  (with_reducible refine (HT1.out D2 _ d2 w1.heap.size w3 ho3.rd ho3.cap.1).mono ?_); rintro e w4 ⟨E, e1, rfl, ho4, hb4⟩
  have hb14 := hb13.trans (hb4.mono hb13.size)
  go_wp2_with fail
  (with_reducible refine (same_yes e1 c ho4.rd (hc1.below hb14)).mono ?_); rintro e v4 ⟨rfl, rfl⟩
  go_wp2_with fail
  (with_reducible refine (HQ.out B q 0 w4 (hp1.below hb14)).mono ?_); rintro e w5 ⟨G, g1, rfl, ho5, hb5⟩
  have hb15 := hb14.trans (hb5.mono hb14.size)
  go_wp2_with fail
  go_ret
  exact ⟨by simp [show (4096 : Int) < (l : Int) by omega], below_step hb1 hb15⟩

set_option maxHeartbeats 1000000 in
theorem back_ny (n : Nat) (size : Int) (B : Option Addr) (l q : Nat) (ps : List UInt8) (C : Option Addr) (m c : Nat) (rs : List UInt8) (w : World) (hn : n < 18446744073709551616) (hp : Rd w 0 1 B l (ps.map bv)) (hc : Rd w 0 1 C m (rs.map bv)) (hl : l ≤ 5000) (hm : m ≤ 5000)
    (k : Int) (hx : putOf n size = ([], k)) (hk : (k == 0) = false) (ys : List UInt8) (hy : putPartOf ps = (ys, 0)) :
    Calls Try.prog 5 #[.int .u64 n, .int .i64 size, .slice B l q, .slice C m c] w fun e w' => e = .returned (.bool true) ∧ Below w.heap.size w w' := by
  obtain ⟨i0, hi0, hz0, hz1, hz2⟩ := info_parts u8_info
  have hlp : ps.length = l := by simpa using hp.1
  have hlr : rs.length = m := by simpa using hc.1
  have P : ∀ W, Calls Try.prog 9 #[.int .u64 n, .int .i64 size] W (GivesBI W 0 [] k) := fun W => put_at n size [] k hn hx W
  clear hx
  have HP := hid P
  clear P
  have hyl : ys.length ≤ 5000 := by have := putPartOf_len hy; omega
  have Q : ∀ A k lo W, Rd W lo 1 A l (ps.map bv) → Calls Try.prog 11 #[.slice A l k] W (GivesBI W ys.length ys 0) := fun A k lo W h => putPart_at ps ys 0 hy A l k lo W h
  have T : ∀ A a k lo W, Rd W lo 1 A a ((ys ++ rs).map bv) → a ≤ k → Calls Try.prog 19 #[.slice A a k] W (GivesBBI W l m ps rs 0) := fun A a k lo W h hk => by
    have := takePart_at (ys ++ rs) ps rs 0 (takePart_put hy rs) (by simp; omega) A a k lo W h hk
    rw [hlp, hlr] at this
    exact this
  have HT2 := hid T
  clear T hy
  have HQ := hid Q
  clear Q hlp hlr
  go_enter Try.func5, Try.ntmps5
  go_wp2_with fail
  (with_reducible refine (alive_any w).mono ?_); rintro e w1 ⟨rfl, hb1⟩
  have hp1 := hp.below hb1
  have hc1 := hc.below hb1
  go_wp2_with fail
  (with_reducible refine (HP.out w1).mono ?_); rintro e w4 ⟨D, d, rfl, ho2, hb14⟩
  go_wp2_with fail
  (with_reducible refine (HQ.out B q 0 w4 (hp1.below hb14)).mono ?_); rintro e w5 ⟨G, g1, rfl, ho5, hb5⟩
  have hb15 := hb14.trans (hb5.mono hb14.size)
  go_wp2_with (at_builtin; refine wpList_app _ rfl _ _ _ rfl w1.heap.size 5 i0 _ 1 1 Try.underlying23 hi0 hz0 hz1 hz2 rfl (by omega) G ys.length g1 (ys.map bv) rfl (ho5.low hb14.size) C m c 0 (rs.map bv) rfl (hc1.below hb15) (bv_one _) (by simp only [maxLen]; omega) (by omega) hb15.size ?_; intro G2 g2 w6 ho6 hg6 ht6)
  have hb16 := (ho5.low hb14.size).grows hg6 hb15 hb15.size
  rw [← List.map_append] at ho6
  (with_reducible refine (HT2.out G2 _ g2 w1.heap.size w6 ho6.rd ho6.cap.1).mono ?_); rintro e w7 ⟨I, i1, J, j1, rfl, ra, ia, rb, ib, hb7⟩
  have hb17 := hb16.trans (hb7.mono hb16.size)
  go_wp2_with fail
  (with_reducible refine (same_yes i1 q ra (hp1.below hb17)).mono ?_); rintro e v7 ⟨rfl, rfl⟩
  go_wp2_with fail
  (with_reducible refine (same_yes j1 c rb (hc1.below hb17)).mono ?_); rintro e v7 ⟨rfl, rfl⟩
  go_wp2_with fail
  go_ret
  exact ⟨rfl, below_step hb1 hb17⟩

set_option maxHeartbeats 1000000 in
theorem back_nn (n : Nat) (size : Int) (B : Option Addr) (l q : Nat) (ps : List UInt8) (C : Option Addr) (m c : Nat) (rs : List UInt8) (w : World) (hn : n < 18446744073709551616) (hp : Rd w 0 1 B l (ps.map bv)) (hc : Rd w 0 1 C m (rs.map bv)) (hl : l ≤ 5000) (hm : m ≤ 5000)
    (k : Int) (hx : putOf n size = ([], k)) (hk : (k == 0) = false) (hy : putPartOf ps = ([], 4)) (h4 : 4096 < ps.length) :
    Calls Try.prog 5 #[.int .u64 n, .int .i64 size, .slice B l q, .slice C m c] w fun e w' => e = .returned (.bool true) ∧ Below w.heap.size w w' := by
  obtain ⟨i0, hi0, hz0, hz1, hz2⟩ := info_parts u8_info
  have hlp : ps.length = l := by simpa using hp.1
  have hlr : rs.length = m := by simpa using hc.1
  have P : ∀ W, Calls Try.prog 9 #[.int .u64 n, .int .i64 size] W (GivesBI W 0 [] k) := fun W => put_at n size [] k hn hx W
  clear hx
  have HP := hid P
  clear P
  have hl4 : 4096 < l := by omega
  have Q : ∀ A k lo W, Rd W lo 1 A l (ps.map bv) → Calls Try.prog 11 #[.slice A l k] W (GivesBI W 0 [] 4) := fun A k lo W h => putPart_at ps [] 4 hy A l k lo W h
  clear hy
  have HQ := hid Q
  clear Q hlp hlr
  go_enter Try.func5, Try.ntmps5
  go_wp2_with fail
  (with_reducible refine (alive_any w).mono ?_); rintro e w1 ⟨rfl, hb1⟩
  have hp1 := hp.below hb1
  have hc1 := hc.below hb1
  go_wp2_with fail
  (with_reducible refine (HP.out w1).mono ?_); rintro e w4 ⟨D, d, rfl, ho2, hb14⟩
  go_wp2_with fail
  (with_reducible refine (HQ.out B q 0 w4 (hp1.below hb14)).mono ?_); rintro e w5 ⟨G, g1, rfl, ho5, hb5⟩
  have hb15 := hb14.trans (hb5.mono hb14.size)
  go_wp2_with fail
  go_ret
  exact ⟨by simp [show (4096 : Int) < (l : Int) by omega], below_step hb1 hb15⟩

set_option maxHeartbeats 400000 in
theorem back_big (n size : Int) (B : Option Addr) (l q : Nat) (C : Option Addr) (m c : Nat) (w : World) (h : 5000 < l ∨ l ≤ 5000 ∧ 5000 < m) :
    Calls Try.prog 5 #[.int .u64 n, .int .i64 size, .slice B l q, .slice C m c] w fun e w' => e = .returned (.bool true) ∧ Below w.heap.size w w' := by
  rcases h with h | ⟨h1, h⟩
  all_goals
    go_enter Try.func5, Try.ntmps5
    go_wp2_with fail
    (with_reducible refine (alive_any w).mono ?_); rintro e w1 ⟨rfl, hb1⟩
    go_wp2_with fail
    go_ret
    exact ⟨rfl, hb1⟩

theorem numBack_law {w : World} (n : Int) (hn : (Lit.int .u64 n).wf = true) (size : Int) (_hs : (Lit.int .i64 size).wf = true) (B : Option Addr) (l q : Nat) (zs : List Int) (h : IsRow .u8 w B l q zs) (C : Option Addr) (m c : Nat) (ys : List Int) (h' : IsRow .u8 w C m c ys) :
    Calls Try.prog 5 #[.int .u64 n, .int .i64 size, .slice B l q, .slice C m c] w fun e w' => e = .returned (.bool true) ∧ Below w.heap.size w w' := by
  obtain ⟨n, rfl, hn'⟩ := u64_wf hn
  obtain ⟨_, ps, hp⟩ := isRow_rd h
  obtain ⟨_, rs, hc⟩ := isRow_rd h'
  by_cases hl : l ≤ 5000
  · by_cases hm : m ≤ 5000
    · by_cases h1 : (putOf n size).2 = 0
      · have hx : putOf n size = ((putOf n size).1, 0) := by rw [← h1]
        by_cases h2 : (putPartOf ps).2 = 0
        · have hy : putPartOf ps = ((putPartOf ps).1, 0) := by rw [← h2]
          exact back_yy n size B l q ps C m c rs w hn' hp hc hl hm _ hx _ hy
        · obtain ⟨hy, h4⟩ := putPartOf_bad h2
          exact back_yn n size B l q ps C m c rs w hn' hp hc hl hm _ hx hy h4
      · have hx : putOf n size = ([], (putOf n size).2) := by rw [← putOf_bad h1]
        have hk : ((putOf n size).2 == 0) = false := beq_eq_false_iff_ne.2 h1
        by_cases h2 : (putPartOf ps).2 = 0
        · have hy : putPartOf ps = ((putPartOf ps).1, 0) := by rw [← h2]
          exact back_ny n size B l q ps C m c rs w hn' hp hc hl hm _ hx hk _ hy
        · obtain ⟨hy, h4⟩ := putPartOf_bad h2
          exact back_nn n size B l q ps C m c rs w hn' hp hc hl hm _ hx hk hy h4
    · exact back_big _ _ B l q C m c w (.inr ⟨hl, by omega⟩)
  · exact back_big _ _ B l q C m c w (.inl (by omega))
end Go.Proofs.Ytffgkjcfffkahaa
