/-
  The plain laws of numbers and parts in bytes: what is put is taken, what is taken is put again. No program in sight. No condition beyond those each theorem names.
-/
import Derived.Test.YtffgkjcfffkahaaNumG
namespace Go.Proofs.Ytffgkjcfffkahaa
open Go.RowKit

theorem dig_succ (n k : Nat) : dig n (k + 1) = dig (n / 256) k := by
  unfold dig
  rw [Nat.div_div_eq_div_mul, Nat.pow_succ, Nat.mul_comm 256]
theorem be_succ (n s : Nat) : be n (s + 1) = be (n / 256) s ++ [UInt8.ofNat n] := by
  unfold be
  rw [List.range_succ, List.map_append]
  congr 1
  · apply List.map_congr_left
    intro j hj
    have hj := List.mem_range.1 hj
    rw [show s + 1 - 1 - j = (s - 1 - j) + 1 by omega, dig_succ]
  · simp [dig]
theorem val_be (n s : Nat) (h : n < 256 ^ s) : val (be n s) = n := by
  induction s generalizing n with
  | zero =>
    have : n = 0 := by simpa using h
    subst this
    rfl
  | succ s ih =>
    rw [be_succ, val_snoc, ih (n / 256) (by rw [Nat.pow_succ] at h; omega)]
    simp
    omega
theorem be_val (bs : List UInt8) : be (val bs) bs.length = bs := by
  suffices ∀ m (l : List UInt8), l.length = m → be (val l) m = l from this _ _ rfl
  intro m
  induction m with
  | zero => intro l h; rw [List.eq_nil_of_length_eq_zero h]; rfl
  | succ m ih =>
    intro l h
    rcases List.eq_nil_or_concat l with rfl | ⟨l', b, rfl⟩
    · simp at h
    · have hb := b.toNat_lt
      rw [List.concat_eq_append, val_snoc, be_succ, show (256 * val l' + b.toNat) / 256 = val l' by omega, ih l' (by simpa using h)]
      congr 2
      apply UInt8.toNat_inj.1
      simp

/-- What is put is taken, whatever stands behind it. -/
theorem take_put {n : Nat} {size : Int} {xs : List UInt8} (h : putOf n size = (xs, 0)) (rest : List UInt8) : takeOf (xs ++ rest) size = (n, rest, 0) := by
  unfold putOf at h
  by_cases h1 : size < 1 ∨ 8 < size
  · rw [if_pos h1] at h
    simp at h
  rw [if_neg h1] at h
  by_cases h2 : 256 ^ size.toNat ≤ n
  · rw [if_pos h2] at h
    simp at h
  rw [if_neg h2] at h
  simp only [Prod.mk.injEq, and_true] at h
  subst h
  have hl := be_length n size.toNat
  unfold takeOf
  rw [if_neg h1, if_neg (by rw [List.length_append, hl]; omega), List.take_left' hl, List.drop_left' hl, val_be n _ (by omega)]
theorem takePart_put {p ys : List UInt8} (h : putPartOf p = (ys, 0)) (rest : List UInt8) : takePartOf (ys ++ rest) = (p, rest, 0) := by
  unfold putPartOf at h
  by_cases h1 : 4096 < p.length
  · rw [if_pos h1] at h
    simp at h
  rw [if_neg h1] at h
  simp only [Prod.mk.injEq, and_true] at h
  subst h
  have hl := be_length p.length 2
  have hv : val (be p.length 2) = p.length := val_be _ _ (by omega)
  unfold takePartOf
  rw [List.append_assoc, List.take_left' hl, hv, if_neg (by simp [hl]), if_neg (by omega), if_neg (by simp [hl]), List.drop_left' hl, List.take_left' rfl]
  have : (be p.length 2 ++ (p ++ rest)).drop (2 + p.length) = rest := by
    rw [← List.drop_drop, List.drop_left' hl, List.drop_left' rfl]
  rw [this]

/-- What is taken, put again, is what it was taken from. -/
theorem put_take {bs xs : List UInt8} {n : Nat} {size : Int} (h : takeOf bs size = (n, xs, 0)) : ∃ ys, putOf n size = (ys, 0) ∧ ys ++ xs = bs := by
  unfold takeOf at h
  by_cases h1 : size < 1 ∨ 8 < size
  · rw [if_pos h1] at h
    simp at h
  rw [if_neg h1] at h
  by_cases h2 : bs.length < size.toNat
  · rw [if_pos h2] at h
    simp at h
  rw [if_neg h2] at h
  simp only [Prod.mk.injEq, and_true] at h
  obtain ⟨rfl, rfl⟩ := h
  have hl : (bs.take size.toNat).length = size.toNat := by rw [List.length_take]; omega
  have hlt := val_lt (bs.take size.toNat)
  rw [hl] at hlt
  refine ⟨be (val (bs.take size.toNat)) size.toNat, ?_, ?_⟩
  · unfold putOf
    rw [if_neg h1, if_neg (by omega)]
  · have := be_val (bs.take size.toNat)
    rw [hl] at this
    rw [this, List.take_append_drop]
theorem putPart_take {bs p s : List UInt8} (h : takePartOf bs = (p, s, 0)) : ∃ ys, putPartOf p = (ys, 0) ∧ ys ++ s = bs := by
  unfold takePartOf at h
  by_cases h1 : bs.length < 2
  · rw [if_pos h1] at h
    simp at h
  rw [if_neg h1] at h
  by_cases h2 : 4096 < val (bs.take 2)
  · rw [if_pos h2] at h
    simp at h
  rw [if_neg h2] at h
  by_cases h3 : bs.length - 2 < val (bs.take 2)
  · rw [if_pos h3] at h
    simp at h
  rw [if_neg h3] at h
  simp only [Prod.mk.injEq, and_true] at h
  obtain ⟨rfl, rfl⟩ := h
  have hl : ((bs.drop 2).take (val (bs.take 2))).length = val (bs.take 2) := by rw [List.length_take, List.length_drop]; omega
  have h2l : (bs.take 2).length = 2 := by rw [List.length_take]; omega
  refine ⟨be (val (bs.take 2)) 2 ++ (bs.drop 2).take (val (bs.take 2)), ?_, ?_⟩
  · unfold putPartOf
    rw [hl, if_neg h2]
  · have := be_val (bs.take 2)
    rw [h2l] at this
    rw [this, List.append_assoc, ← List.drop_drop, List.take_append_drop, List.take_append_drop]
/-- The error of Put and PutPart, where there is one, is none of 0; nothing is put. -/
theorem putOf_bad {n : Nat} {size : Int} (h : (putOf n size).2 ≠ 0) : (putOf n size).1 = [] := by
  unfold putOf at *
  split
  · rfl
  · split
    · rfl
    · rename_i a b
      rw [if_neg a, if_neg b] at h
      simp at h
theorem putPartOf_bad {p : List UInt8} (h : (putPartOf p).2 ≠ 0) : putPartOf p = ([], 4) ∧ 4096 < p.length := by
  unfold putPartOf at *
  by_cases h1 : 4096 < p.length
  · rw [if_pos h1]
    exact ⟨rfl, h1⟩
  · rw [if_neg h1] at h
    simp at h
end Go.Proofs.Ytffgkjcfffkahaa
