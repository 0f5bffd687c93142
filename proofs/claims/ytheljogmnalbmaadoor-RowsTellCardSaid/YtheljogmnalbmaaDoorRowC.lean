/-
  How many of so many stand in the first part: in plain words; contracts of rows.front and the reference's First. No condition beyond those each theorem names.
-/
import Derived.Test.YtheljogmnalbmaaDoorRowB
import Derived.Test.YtheljogmnalbmaaDoorShelf
import Derived.Lib.ItoaNum
namespace Go.Proofs.YtheljogmnalbmaaDoor
open Go.RowKit
set_option linter.unusedSimpArgs false
set_option linter.unusedVariables false

/-- How many of n stand in the first part. -/
def frontN (n : Nat) : Nat := 2 ^ (n - 1).log2
theorem frontN_bounds {n : Nat} (h : 2 ≤ n) : 1 ≤ frontN n ∧ frontN n < n ∧ n ≤ 2 * frontN n := by
  unfold frontN
  have h1 := Nat.log2_self_le (n := n - 1) (by omega)
  have h2 := Nat.lt_log2_self (n := n - 1)
  have h3 := Nat.pow_pos (n := (n - 1).log2) (show 0 < 2 by omega)
  rw [Nat.pow_succ] at h2
  omega
theorem pow_uniq {a b n : Nat} (h1 : 2 ^ a < n) (h2 : n ≤ 2 * 2 ^ a) (h3 : 2 ^ b < n) (h4 : n ≤ 2 * 2 ^ b) : a = b := by
  rcases Nat.lt_trichotomy a b with h | h | h
  · have := Nat.pow_le_pow_right (show 0 < 2 by omega) (show a + 1 ≤ b from h)
    rw [Nat.pow_succ] at this
    omega
  · exact h
  · have := Nat.pow_le_pow_right (show 0 < 2 by omega) (show b + 1 ≤ a from h)
    rw [Nat.pow_succ] at this
    omega
theorem front_uniq {n j : Nat} (h : 2 ≤ n) (h1 : 2 ^ j < n) (h2 : n ≤ 2 * 2 ^ j) : 2 ^ j = frontN n := by
  have hb := frontN_bounds h
  unfold frontN at *
  rw [pow_uniq h1 h2 hb.2.1 hb.2.2]
theorem len_front {n : Nat} (h : 2 ≤ n) (h2 : n ≤ 512) : ∃ k, k ≤ 8 ∧ Lib.bitLen (n - 1) = k + 1 ∧ frontN n = 2 ^ k := by
  obtain ⟨b1, b2, b3⟩ := Lib.bitLenAux_bounds 64 (n - 1) (by omega) (by omega)
  change 1 ≤ Lib.bitLen (n - 1) at b1
  change 2 ^ (Lib.bitLen (n - 1) - 1) ≤ n - 1 at b2
  change n - 1 < 2 ^ Lib.bitLen (n - 1) at b3
  obtain ⟨k, hk⟩ : ∃ k, Lib.bitLen (n - 1) = k + 1 := ⟨Lib.bitLen (n - 1) - 1, by omega⟩
  rw [hk] at b2 b3
  rw [Nat.add_sub_cancel] at b2
  rw [Nat.pow_succ] at b3
  refine ⟨k, ?_, hk, (front_uniq h (by omega) (by omega)).symm⟩
  have h9 : 2 ^ k < 2 ^ 9 := by omega
  have := (Nat.pow_lt_pow_iff_right (show 1 < 2 by omega)).1 h9
  omega

set_option maxHeartbeats 1000000 in
theorem front_any (n : Nat) (h : 2 ≤ n) (h2 : n ≤ 512) (w : World) :
    Calls Tryd.prog 31 #[.int .i64 n] w fun e w' => e = .returned (.int .i64 (frontN n)) ∧ w' = w := by
  obtain ⟨k, hk, hl, hf⟩ := len_front h h2
  have hB := fun W => Tryd.bits_Len ((n : Int) - 1) W (by omega) (by omega)
  have hx : ((n : Int) - 1).toNat = n - 1 := by omega
  rw [hx, hl] at hB
  rw [hf]
  have HB := hid hB
  clear hB hx hl hf
  have hz : (0 : Int) ≤ (n : Int) - 1 := by omega
  have hk' : k = 0 ∨ k = 1 ∨ k = 2 ∨ k = 3 ∨ k = 4 ∨ k = 5 ∨ k = 6 ∨ k = 7 ∨ k = 8 := by omega
  rcases hk' with rfl | rfl | rfl | rfl | rfl | rfl | rfl | rfl | rfl
  all_goals
    go_enter Tryd.func31, Tryd.ntmps31
    go_wp2_with ((with_reducible refine (HB.out _).mono ?_); rintro e w1 ⟨rfl, rfl⟩)
    go_ret
    exact ⟨rfl, rfl⟩

set_option maxHeartbeats 1000000 in
theorem first_any (n : Nat) (h : 2 ≤ n) (h2 : n ≤ 512) (w : World) :
    Calls Tryd.prog 38 #[.int .i64 n] w fun e w' => e = .returned (.int .i64 (frontN n)) ∧ w' = w := by
  go_enter Tryd.func38, Tryd.ntmps38
  go_wp2
  go_loopw [3] (fun i wx => ∃ p j : Nat, i = .int .i64 p ∧ p = 2 ^ j ∧ p < n ∧ wx = w) (fun i _ => n - (intOf i).toNat)
  case atStart => exact ⟨1, 0, rfl, rfl, by omega, rfl⟩
  case round =>
    obtain ⟨p, j, rfl, hp, hlt, rfl⟩ := hrel
    have HP := hid hp
    have hp0 : 0 < p := by rw [hp]; exact Nat.pow_pos (by omega)
    clear hp
    by_cases hc : 2 * p < n
    · have hcH := hid hc
      have hci : 2 * (p : Int) < (n : Int) := by omega
      go_wp2
      exact ⟨⟨2 * p, j + 1, by go_num, by rw [Nat.pow_succ, ← HP.out]; omega, hcH.out, by first | rfl | trivial⟩, by have := hcH.out; simp [intOf]; omega⟩
    · have hcH := hid hc
      have hci : ¬ 2 * (p : Int) < (n : Int) := by omega
      have hltH := hid hlt
      go_wp2
      go_ret
      have := front_uniq h (j := j) (by rw [← HP.out]; exact hltH.out) (by rw [← HP.out]; have := hcH.out; omega)
      rw [← this, ← HP.out]
      exact ⟨rfl, rfl⟩
end Go.Proofs.YtheljogmnalbmaaDoor
