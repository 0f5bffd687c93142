/-
  SHA-256 in plain words: padding, all blocks, the digest. Definitions and what they say of lists.
-/
import Derived.Test.YtheljogmnalbmaaDoorShaG
namespace Go.Proofs.YtheljogmnalbmaaDoor

/-- A block of a message. -/
def blkAt (l : List UInt8) (i : Nat) : List UInt8 := (l.drop (64 * i)).take 64
/-- The state behind the first blocks. -/
def fold (s : List UInt32) (l : List UInt8) : Nat → List UInt32
  | 0 => s
  | k + 1 => comp (fold s l k) (blkAt l k)
theorem fold_len (s : List UInt32) (l : List UInt8) (hs : s.length = 8) : ∀ k, (fold s l k).length = 8
  | 0 => hs
  | k + 1 => comp_len _ _ (fold_len s l hs k)
theorem blkAt_append (l m : List UInt8) (i : Nat) (h : 64 * (i + 1) ≤ l.length) : blkAt (l ++ m) i = blkAt l i := by
  unfold blkAt
  rw [List.drop_append_of_le_length (by omega), List.take_append_of_le_length (by rw [List.length_drop]; omega)]
theorem fold_append (s : List UInt32) (l m : List UInt8) : ∀ k, 64 * k ≤ l.length → fold s (l ++ m) k = fold s l k
  | 0, _ => rfl
  | k + 1, h => by rw [fold, fold, fold_append s l m k (by omega), blkAt_append l m k h]
def hInit : List UInt32 := [0x6a09e667, 0xbb67ae85, 0x3c6ef372, 0xa54ff53a, 0x510e527f, 0x9b05688c, 0x1f83d9ab, 0x5be0cd19]
/-- How many zeros stand in the padding. -/
def zerosN (n : Nat) : Nat := (119 - n % 64) % 64
theorem zerosN_lt (n : Nat) : zerosN n < 64 := Nat.mod_lt _ (by omega)
theorem zerosN_mod (n q : Nat) (hq : q ≤ zerosN n) : (n + 1 + q) % 64 = 56 ↔ q = zerosN n := by
  unfold zerosN at *
  omega
/-- The length's byte. -/
def lenAt (n j : Nat) : UInt8 := UInt8.ofNat (8 * n / 2 ^ (56 - 8 * j))
def lenB (n j : Nat) : List UInt8 := (List.range j).map (lenAt n)
theorem lenB_len (n j : Nat) : (lenB n j).length = j := by simp [lenB]
theorem lenB_succ (n j : Nat) : lenB n (j + 1) = lenB n j ++ [lenAt n j] := by simp [lenB, List.range_succ]
def padQ (l : List UInt8) (q : Nat) : List UInt8 := l ++ [128] ++ List.replicate q 0
def padJ (l : List UInt8) (j : Nat) : List UInt8 := padQ l (zerosN l.length) ++ lenB l.length j
/-- A message padded. -/
def pad (l : List UInt8) : List UInt8 := padJ l 8
theorem padQ_len (l : List UInt8) (q : Nat) : (padQ l q).length = l.length + 1 + q := by simp [padQ]; omega
theorem padQ_succ (l : List UInt8) (q : Nat) : padQ l (q + 1) = padQ l q ++ [0] := by simp [padQ, List.replicate_succ']
theorem padJ_len (l : List UInt8) (j : Nat) : (padJ l j).length = l.length + 1 + zerosN l.length + j := by simp [padJ, padQ_len, lenB_len]
theorem padJ_succ (l : List UInt8) (j : Nat) : padJ l (j + 1) = padJ l j ++ [lenAt l.length j] := by simp [padJ, lenB_succ]
theorem pad_len (l : List UInt8) : (pad l).length % 64 = 0 := by
  rw [pad, padJ_len]
  have := (zerosN_mod l.length (zerosN l.length) (Nat.le_refl _)).2 rfl
  omega
theorem pad_fold (s : List UInt32) (l : List UInt8) (k : Nat) (h : 64 * k ≤ l.length) : fold s (pad l) k = fold s l k := by
  rw [pad, padJ, padQ, List.append_assoc, List.append_assoc, fold_append s l _ k h]
/-- The state behind a message. -/
def shaB (l : List UInt8) : List UInt32 := fold hInit (pad l) ((pad l).length / 64)
theorem shaB_len (l : List UInt8) : (shaB l).length = 8 := fold_len _ _ rfl _
def digAt (st : List UInt32) (i : Nat) : UInt8 := wlow (wshr (st.getD (i / 4) 0) (24 - 8 * (i % 4)))
def digL (st : List UInt32) (i : Nat) : List UInt8 := (List.range i).map (digAt st)
/-- The digest while it is written. -/
def digRow (st : List UInt32) (i : Nat) : List UInt8 := digL st i ++ List.replicate (32 - i) 0
/-- The digest of a message. -/
def shaOf (l : List UInt8) : List UInt8 := digL (shaB l) 32
theorem shaOf_len (l : List UInt8) : (shaOf l).length = 32 := by simp [shaOf, digL]
theorem digRow_len (st : List UInt32) (i : Nat) (h : i ≤ 32) : (digRow st i).length = 32 := by simp [digRow, digL]; omega
theorem digRow_set (st : List UInt32) (i : Nat) (h : i < 32) : (((digRow st i).map bv).toArray).setIfInBounds i (bv (digAt st i)) = ((digRow st (i + 1)).map bv).toArray := by
  rw [List.setIfInBounds_toArray]
  congr 1
  have e : 32 - i = (32 - (i + 1)) + 1 := by omega
  have hl : (digL st i).length = i := by simp [digL]
  have hl2 : ((digL st i).map bv).length = i := by simp [digL]
  have es : digL st (i + 1) = digL st i ++ [digAt st i] := by simp [digL, List.range_succ]
  rw [digRow, digRow, e, List.replicate_succ, es, List.map_append, List.map_append, List.set_append_right _ _ (by omega), hl2]
  simp
theorem digRow_next (st : List UInt32) (i : Nat) (h : i < 32) : (((digRow st i).map bv).toArray)[i]? = some (.int .u8 0) := by
  have hl : (digL st i).length = i := by simp [digL]
  have : (digRow st i)[i]? = some 0 := by
    rw [digRow, List.getElem?_append_right (by omega), List.getElem?_replicate, if_pos (by omega)]
  simp [this]
  rfl
theorem digRow_full (st : List UInt32) : digRow st 32 = digL st 32 := by simp [digRow]
theorem digRow_zero (st : List UInt32) : digRow st 0 = List.replicate 32 0 := by simp [digRow, digL]
/-- A block off the rest. -/
theorem take_rest (l : List UInt8) (k : Nat) : (l.drop (64 * k)).take 64 = blkAt l k := rfl
theorem drop_rest (l : List UInt8) (k : Nat) : (l.drop (64 * k)).drop 64 = l.drop (64 * (k + 1)) := by rw [List.drop_drop, Nat.mul_add]
theorem drop_app (l m : List UInt8) (k : Nat) (h : 64 * k ≤ l.length) : l.drop (64 * k) ++ m = (l ++ m).drop (64 * k) := (List.drop_append_of_le_length h).symm
end Go.Proofs.YtheljogmnalbmaaDoor
