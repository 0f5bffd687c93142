/-
  Contracts of num.Put and of the reference's Digits: a number in so many bytes. No condition beyond those each theorem names.
-/
import Derived.Test.YtheljogmnalbmaaDoorKit
namespace Go.Proofs.YtheljogmnalbmaaDoor
open Go.RowKit

theorem u8_info : (Tryd.prog.info? 5).map (fun i => (i.zero, i.size, i.bytes)) = some (some (.int .u8 0), 1, 1) := by kernel_rfl
/-- Two results: a slice of n bytes in new memory, a number. -/
def GivesBI (w : World) (n : Nat) (bs : List UInt8) (k : Int) (e : Ending) (w' : World) : Prop :=
  ∃ A c, e = .returned (.tuple #[.slice A n c, .int .i64 k]) ∧ Own w' w.heap.size 5 1 A n c (bs.map bv) ∧ Below w.heap.size w w'
theorem gives_bi {w w' : World} {A : Option Addr} {n c : Nat} {bs : List UInt8} {k : Int} (ho : Own w' w.heap.size 5 1 A n c (bs.map bv)) (hb : Below w.heap.size w w') : GivesBI w n bs k (.returned (.tuple #[.slice A n c, .int .i64 k])) w' := ⟨A, c, rfl, ho, hb⟩

set_option maxHeartbeats 400000 in
theorem put_arg (n : Nat) (size : Int) (w : World) (hs : size < 1 ∨ 8 < size) :
    Calls Tryd.prog 46 #[.int .u64 n, .int .i64 size] w fun e w' => e = .returned (.tuple #[.slice none 0 0, .int .i64 2]) ∧ w = w' := by
  rcases hs with h | h
  · go_enter Tryd.func46, Tryd.ntmps46
    go_wp2
    go_ret2
    exact ⟨rfl, rfl⟩
  · have h1 : ¬ size < 1 := by omega
    go_enter Tryd.func46, Tryd.ntmps46
    go_wp2
    go_ret2
    exact ⟨rfl, rfl⟩

set_option maxHeartbeats 400000 in
theorem put_many (n s : Nat) (w : World) (hs : 1 ≤ s) (hs8 : s < 8) (h : 0 < (n : Int) / 2 ^ (8 * s)) :
    Calls Tryd.prog 46 #[.int .u64 n, .int .i64 (s : Int)] w fun e w' => e = .returned (.tuple #[.slice none 0 0, .int .i64 4]) ∧ w = w' := by
  have h1 : ¬ (s : Int) < 1 := by omega
  have h2 : ¬ (8 : Int) < s := by omega
  have h3 : (s : Int) < 8 := by omega
  go_enter Tryd.func46, Tryd.ntmps46
  go_wp2
  go_ret2
  exact ⟨rfl, rfl⟩

/-- The k-th digit to the base of 256. -/
def dig (n k : Nat) : UInt8 := UInt8.ofNat (n / 256 ^ k)
/-- A number in so many bytes. -/
def be (n s : Nat) : List UInt8 := (List.range s).map fun j => dig n (s - 1 - j)
/-- The same with only the last k bytes written. -/
def pL (n s k : Nat) : List Value := (List.range s).map fun j => if s ≤ j + k then bv (dig n (s - 1 - j)) else .int .u8 0
theorem be_length (n s : Nat) : (be n s).length = s := by simp [be]
theorem pL_length (n s k : Nat) : (pL n s k).length = s := by simp [pL]
theorem pL_zero (n s : Nat) : pL n s 0 = (madeCells (Value.int .u8 0).cells (s * 1)).toList := by
  show _ = (madeCells #[Value.int .u8 0] (s * 1)).toList
  rw [toList_madeCells_one, Nat.mul_one]
  apply List.ext_getElem (by simp [pL])
  intro j h1 h2
  have : j < s := by simpa [pL] using h1
  simp [pL, show ¬ s ≤ j by omega]
theorem pL_set (n s k : Nat) (hk : k < s) : (pL n s k).set (s - 1 - k) (bv (dig n k)) = pL n s (k + 1) := by
  apply List.ext_getElem (by simp [pL])
  intro j h1 h2
  have hj : j < s := by simpa [pL] using h2
  rw [List.getElem_set]
  by_cases e : s - 1 - k = j
  · subst e
    rw [if_pos rfl]
    simp [pL, show s ≤ s - 1 - k + (k + 1) by omega, show s - 1 - (s - 1 - k) = k by omega]
  · rw [if_neg e]
    simp only [pL, List.getElem_map, List.getElem_range]
    by_cases c : s ≤ j + k
    · rw [if_pos c, if_pos (by omega)]
    · rw [if_neg c, if_neg (by omega)]
theorem pL_all (n s : Nat) : pL n s s = (be n s).map bv := by
  simp [pL, be]
theorem digB_val (n k : Nat) : Value.int .u8 ((n : Int) / 2 ^ (8 * k) % 256) = bv (dig n k) := by
  unfold bv dig
  congr 1
  rw [show (256 : Nat) = 2 ^ 8 from rfl, ← Nat.pow_mul]
  simp

set_option maxHeartbeats 400000 in
theorem put_yes (n s : Nat) (w : World) (hs : 1 ≤ s) (hs8 : s ≤ 8) (h : 8 ≤ (s : Int) ∨ (s : Int) < 8 ∧ ¬ 0 < (n : Int) / 2 ^ (8 * s)) :
    Calls Tryd.prog 46 #[.int .u64 n, .int .i64 (s : Int)] w (GivesBI w s (be n s) 0) := by
  obtain ⟨i0, hi0, hz0, hz1, hz2⟩ := info_parts u8_info
  have h1 : ¬ (s : Int) < 1 := by omega
  have h2 : ¬ (8 : Int) < s := by omega
  rcases h with h | ⟨h, h3⟩
  all_goals
    go_enter Tryd.func46, Tryd.ntmps46
    go_wp2_with (refine wpList_mk _ rfl _ _ _ rfl w.heap.size 5 i0 _ 1 1 Tryd.underlying24 hi0 hz0 hz1 hz2 _ _ _ _ s rfl rfl rfl rfl (by omega) (by simp only [maxLen]; omega) (Nat.le_refl _) ?_; intro w1 hown hg)
    go_loopw [7, 28] (fun _ i wr => ∃ k : Nat, k ≤ s ∧ i = .int .i64 k ∧ Own wr w.heap.size 5 1 (some ⟨w.heap.size, 0, none⟩) s s (pL n s k) ∧ w.grownBy wr none) (fun _ i _ => s - (intOf i).toNat)
    case atStart => exact ⟨0, Nat.zero_le _, rfl, by rw [pL_zero]; exact hown, hg⟩
    case round =>
      obtain ⟨k, hk, rfl, ho, hgr⟩ := hrel
      by_cases hlt : k < s
      · obtain ⟨u, _, hc, hf, _, _⟩ := ho.at_ (k := s - 1 - k) (by omega)
        go_wp2
        go_roundw
        case rel => exact ⟨k + 1, by omega, by go_num, by rw [digB_val, ← pL_set n s k hlt]; exact ho.set _ _, grown_set hgr (.inr (Nat.le_refl _)) _⟩
        case measure => simp [intOf]; omega
      · have : k = s := by omega
        subst this
        go_wp2
        go_ret2
        exact gives_bi (by rw [← pL_all]; exact ho) (below_of_grown hgr (Nat.le_refl _) (by simp))

theorem fits_iff (n s : Nat) : 0 < (n : Int) / 2 ^ (8 * s) ↔ 256 ^ s ≤ n := by
  have h2 : (256 : Nat) ^ s = 2 ^ (8 * s) := by rw [show (256 : Nat) = 2 ^ 8 from rfl, ← Nat.pow_mul]
  have hp : 0 < 2 ^ (8 * s) := Nat.pow_pos (by omega)
  have e : (n : Int) / 2 ^ (8 * s) = ((n / 2 ^ (8 * s) : Nat) : Int) := by simp
  rw [e, h2]
  have := Nat.div_pos_iff (a := n) (b := 2 ^ (8 * s))
  omega
/-- num.Put where the number fits. -/
theorem put_ok (n s : Nat) (w : World) (hs : 1 ≤ s) (hs8 : s ≤ 8) (h : n < 256 ^ s) : Calls Tryd.prog 46 #[.int .u64 n, .int .i64 (s : Int)] w (GivesBI w s (be n s) 0) :=
  put_yes n s w hs hs8 (by
    by_cases h8 : s = 8
    · exact .inl (by omega)
    · exact .inr ⟨by omega, fun hh => by have := (fits_iff n s).1 hh; omega⟩)
/-- num.Put where it does not. -/
theorem put_over (n s : Nat) (w : World) (hs : 1 ≤ s) (hs8 : s ≤ 8) (hn : n < 18446744073709551616) (h : 256 ^ s ≤ n) :
    Calls Tryd.prog 46 #[.int .u64 n, .int .i64 (s : Int)] w fun e w' => e = .returned (.tuple #[.slice none 0 0, .int .i64 4]) ∧ w = w' := by
  by_cases h8 : s = 8
  · subst h8
    omega
  · exact put_many n s w hs (by omega) ((fits_iff n s).2 h)

/-! ### the reference -/
/-- Two results: a slice of bytes in new memory, a bool. -/
def GivesBB (w : World) (n : Nat) (bs : List UInt8) (k : Bool) (e : Ending) (w' : World) : Prop :=
  ∃ A c, e = .returned (.tuple #[.slice A n c, .bool k]) ∧ Own w' w.heap.size 5 1 A n c (bs.map bv) ∧ Below w.heap.size w w'
theorem gives_bb {w w' : World} {A : Option Addr} {n c : Nat} {bs : List UInt8} {k : Bool} (ho : Own w' w.heap.size 5 1 A n c (bs.map bv)) (hb : Below w.heap.size w w') : GivesBB w n bs k (.returned (.tuple #[.slice A n c, .bool k])) w' := ⟨A, c, rfl, ho, hb⟩

theorem div_pow (n k : Nat) : n / 256 ^ k / 256 = n / 256 ^ (k + 1) := by rw [Nat.div_div_eq_div_mul, Nat.pow_succ]
theorem div_0 (n : Nat) : n / 256 ^ 0 = n := by simp

theorem dig_q {n k q : Nat} (h : n / 256 ^ k = q) : Value.int .u8 ((q : Int) % 256) = bv (dig n k) := by
  subst h
  unfold bv dig
  simp

set_option maxHeartbeats 400000 in
theorem digits_any (n s : Nat) (w : World) (hs8 : s ≤ 8) (hn : n < 18446744073709551616) :
    Calls Tryd.prog 60 #[.int .u64 n, .int .i64 (s : Int)] w (GivesBB w s (be n s) (n / 256 ^ s == 0)) := by
  obtain ⟨i0, hi0, hz0, hz1, hz2⟩ := info_parts u8_info
  go_enter Tryd.func60, Tryd.ntmps60
  go_wp2_with (refine wpList_mk _ rfl _ _ _ rfl w.heap.size 5 i0 _ 1 1 Tryd.underlying24 hi0 hz0 hz1 hz2 _ _ _ _ s rfl rfl rfl rfl (by omega) (by simp only [maxLen]; omega) (Nat.le_refl _) ?_; intro w1 hown hg)
  go_loopw [0, 7] (fun v i wr => ∃ k : Nat, k ≤ s ∧ v = .int .u64 ((n / 256 ^ k : Nat) : Int) ∧ i = .int .i64 ((s : Int) - 1 - k) ∧ Own wr w.heap.size 5 1 (some ⟨w.heap.size, 0, none⟩) s s (pL n s k) ∧ w.grownBy wr none) (fun _ i _ => (intOf i + 1).toNat)
  case atStart => exact ⟨0, Nat.zero_le _, by rw [div_0], by simp, by rw [pL_zero]; exact hown, hg⟩
  case round =>
    obtain ⟨k, hk, rfl, rfl, ho, hgr⟩ := hrel
    by_cases hlt : k < s
    · obtain ⟨u, _, hc, hf, _, _⟩ := ho.at_ (k := s - 1 - k) (by omega)
      generalize hq : n / 256 ^ k = q
      have hq' : q < 18446744073709551616 := by rw [← hq]; exact Nat.lt_of_le_of_lt (Nat.div_le_self _ _) hn
      have HQ : Hid (n / 256 ^ k = q) := hq
      clear hq
      go_wp2
      go_roundw
      case rel => exact ⟨k + 1, by omega, by congr 1; rw [← div_pow, HQ.out]; omega, by congr 1; omega, by rw [dig_q HQ.out, ← pL_set n s k hlt]; exact ho.set _ _, grown_set hgr (.inr (Nat.le_refl _)) _⟩
      case measure => simp [intOf]; omega
    · have : k = s := by omega
      subst this
      generalize hq : n / 256 ^ k = q
      have HQ : Hid (n / 256 ^ k = q) := hq
      clear hq
      go_wp2
      go_ret2
      have hb : ((q : Int) == 0) = (n / 256 ^ k == 0) := by rw [HQ.out, Bool.eq_iff_iff, beq_iff_eq, beq_iff_eq]; omega
      rw [← hb]
      exact gives_bb (by rw [← pL_all]; exact ho) (below_of_grown hgr (Nat.le_refl _) (by simp))
end Go.Proofs.YtheljogmnalbmaaDoor
