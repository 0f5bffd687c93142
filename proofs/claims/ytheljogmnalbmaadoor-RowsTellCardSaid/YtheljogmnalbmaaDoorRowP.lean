/-
  A row's sides: what they are (plain laws). No condition.
-/
import Derived.Test.YtheljogmnalbmaaDoorRowG
import Derived.Test.YtheljogmnalbmaaDoorRowJ
namespace Go.Proofs.YtheljogmnalbmaaDoor
open Go.RowKit
set_option linter.unusedSimpArgs false
set_option linter.unusedVariables false

/-- A row's sides, the innermost first. -/
def sidesT (pss : List (List UInt8)) (i : Nat) : List (List UInt8) :=
  if h : 2 ≤ pss.length then
    if i < frontN pss.length then sidesT (pss.take (frontN pss.length)) i ++ [rootT (pss.drop (frontN pss.length))]
    else sidesT (pss.drop (frontN pss.length)) (i - frontN pss.length) ++ [rootT (pss.take (frontN pss.length))]
  else []
termination_by pss.length
decreasing_by
  · have := frontN_bounds h; simp; omega
  · have := frontN_bounds h; simp; omega
theorem sidesT_lt {pss : List (List UInt8)} {i : Nat} (h : 2 ≤ pss.length) (hi : i < frontN pss.length) : sidesT pss i = sidesT (pss.take (frontN pss.length)) i ++ [rootT (pss.drop (frontN pss.length))] := by
  rw [sidesT, dif_pos h, if_pos hi]
theorem sidesT_ge {pss : List (List UInt8)} {i : Nat} (h : 2 ≤ pss.length) (hi : ¬ i < frontN pss.length) : sidesT pss i = sidesT (pss.drop (frontN pss.length)) (i - frontN pss.length) ++ [rootT (pss.take (frontN pss.length))] := by
  rw [sidesT, dif_pos h, if_neg hi]
theorem sidesT_one {pss : List (List UInt8)} {i : Nat} (h : ¬ 2 ≤ pss.length) : sidesT pss i = [] := by
  rw [sidesT, dif_neg h]
theorem sides_dg : ∀ (N : Nat) (pss : List (List UInt8)) (i : Nat), pss.length ≤ N → Dg (sidesT pss i)
  | 0, pss, i, hN => by
    rw [sidesT_one (by omega)]
    intro d hd
    simp at hd
  | N + 1, pss, i, hN => by
    by_cases h : 2 ≤ pss.length
    · have hb := frontN_bounds h
      by_cases hi : i < frontN pss.length
      · rw [sidesT_lt h hi]
        intro d hd
        rcases List.mem_append.1 hd with h1 | h1
        · exact sides_dg N _ i (by rw [List.length_take]; omega) d h1
        · simp at h1
          subst h1
          exact rootT_len _
      · rw [sidesT_ge h hi]
        intro d hd
        rcases List.mem_append.1 hd with h1 | h1
        · exact sides_dg N _ _ (by rw [List.length_drop]; omega) d h1
        · simp at h1
          subst h1
          exact rootT_len _
    · rw [sidesT_one h]
      intro d hd
      simp at hd
/-- THE STAGE's THEOREM, plain: each row's sides fit its list's root, at its place. -/
theorem sides_fit : ∀ (N : Nat) (pss : List (List UInt8)) (i : Nat) (p : List UInt8), pss.length ≤ N → pss[i]? = some p → (sidesT pss i).length = (turnsL pss.length i).length ∧ foldK (digOf 7 [p]) (turnsL pss.length i).reverse (sidesT pss i) = rootT pss
  | 0, pss, i, p, hN, hp => by
    have : i < pss.length := (List.getElem?_eq_some_iff.1 hp).1
    omega
  | N + 1, pss, i, p, hN, hp => by
    have hil : i < pss.length := (List.getElem?_eq_some_iff.1 hp).1
    by_cases h : 2 ≤ pss.length
    · have hb := frontN_bounds h
      by_cases hi : i < frontN pss.length
      · have hlt : (pss.take (frontN pss.length)).length = frontN pss.length := by rw [List.length_take]; omega
        have ih := sides_fit N (pss.take (frontN pss.length)) i p (by omega) (by rw [List.getElem?_take, if_pos hi]; exact hp)
        rw [hlt] at ih
        rw [sidesT_lt h hi, turnsL_lt h (by omega), rootT_two h]
        refine ⟨by simp [ih.1], ?_⟩
        rw [List.reverse_cons, foldK_last _ _ _ _ _ (by simp [ih.1]), ih.2]
        rfl
      · have hlt : (pss.drop (frontN pss.length)).length = pss.length - frontN pss.length := by rw [List.length_drop]
        have ih := sides_fit N (pss.drop (frontN pss.length)) (i - frontN pss.length) p (by omega) (by rw [List.getElem?_drop]; rw [show frontN pss.length + (i - frontN pss.length) = i by omega]; exact hp)
        rw [hlt] at ih
        rw [sidesT_ge h hi, turnsL_ge h (by omega), rootT_two h]
        refine ⟨by simp [ih.1], ?_⟩
        rw [List.reverse_cons, foldK_last _ _ _ _ _ (by simp [ih.1]), ih.2]
        rfl
    · have h1 : pss.length = 1 := by omega
      obtain ⟨q, rfl⟩ := List.length_eq_one_iff.1 h1
      have hi0 : i = 0 := by simp at hil; omega
      subst hi0
      have hq : q = p := by simpa using hp
      subst hq
      rw [sidesT_one h, rootT_one]
      rw [show ([q] : List (List UInt8)).length = 1 from rfl, turnsL_one (by omega)]
      exact ⟨rfl, rfl⟩
theorem frontN_le {n k : Nat} (h : 2 ≤ n) (hk : n ≤ 2 ^ (k + 1)) : frontN n ≤ 2 ^ k ∧ n - frontN n ≤ 2 ^ k := by
  have hb := frontN_bounds h
  have h1 : (n - 1).log2 < k + 1 := (Nat.log2_lt (by omega)).2 (by omega)
  have h2 : frontN n ≤ 2 ^ k := Nat.pow_le_pow_right (by omega) (by omega)
  omega
theorem turns_len : ∀ (k n i : Nat), 1 ≤ n → n ≤ 2 ^ k → (turnsL n i).length ≤ k
  | 0, n, i, h1, h => by
    rw [turnsL_one (by simp at h; omega)]
    exact Nat.le_refl _
  | k + 1, n, i, h1, h => by
    by_cases h2 : 2 ≤ n
    · have hb := frontN_bounds h2
      have hl := frontN_le h2 h
      by_cases hf : frontN n ≤ i
      · rw [turnsL_ge h2 hf, List.length_cons]
        have := turns_len k (n - frontN n) (i - frontN n) (by omega) hl.2
        omega
      · rw [turnsL_lt h2 hf, List.length_cons]
        have := turns_len k (frontN n) i (by omega) hl.1
        omega
    · rw [turnsL_one (by omega)]
      exact Nat.zero_le _
end Go.Proofs.YtheljogmnalbmaaDoor
