/-
  SHA-256 in plain words: the schedule, the round, the block. Definitions, and what they say of the cells.
-/
import Derived.Test.YtheljogmnalbmaaDoorWord
import Derived.Test.YtheljogmnalbmaaDoorArr
namespace Go.Proofs.YtheljogmnalbmaaDoor

def be4 (c0 c1 c2 c3 : UInt8) : UInt32 := UInt32.ofNat (16777216 * c0.toNat + 65536 * c1.toNat + 256 * c2.toNat + c3.toNat)
def sgA (x : UInt32) : UInt32 := wxor (wxor (wrot x 7) (wrot x 18)) (wshr x 3)
def sgB (x : UInt32) : UInt32 := wxor (wxor (wrot x 17) (wrot x 19)) (wshr x 10)
def nextW (l : List UInt32) (t : Nat) : UInt32 := wadd (wadd (wadd (l.getD (t - 16) 0) (sgA (l.getD (t - 15) 0))) (l.getD (t - 7) 0)) (sgB (l.getD (t - 2) 0))
def wordB (bs : List UInt8) (t : Nat) : UInt32 := be4 (bs.getD (4 * t) 0) (bs.getD (4 * t + 1) 0) (bs.getD (4 * t + 2) 0) (bs.getD (4 * t + 3) 0)
/-- The schedule's first words. -/
def sch (bs : List UInt8) : Nat → List UInt32
  | 0 => []
  | n + 1 => sch bs n ++ [if n < 16 then wordB bs n else nextW (sch bs n) n]
theorem sch_len (bs : List UInt8) : ∀ n, (sch bs n).length = n
  | 0 => rfl
  | n + 1 => by simp [sch, sch_len bs n]
def mixOne (v : List UInt32) (k w : UInt32) : UInt32 :=
  match v with
  | [_, _, _, _, e, f, g, h] => wadd (wadd (wadd (wadd h (wxor (wxor (wrot e 6) (wrot e 11)) (wrot e 25))) (wxor (wand e f) (wand (wnot e) g))) k) w
  | _ => 0
def mixTwo (v : List UInt32) : UInt32 :=
  match v with
  | [a, b, c, _, _, _, _, _] => wadd (wxor (wxor (wrot a 2) (wrot a 13)) (wrot a 22)) (wxor (wxor (wand a b) (wand a c)) (wand b c))
  | _ => 0
def rnd (v : List UInt32) (k w : UInt32) : List UInt32 :=
  match v with
  | [a, b, c, d, e, f, g, _] => [wadd (mixOne v k w) (mixTwo v), a, b, c, wadd d (mixOne v k w), e, f, g]
  | _ => v
def kList : List UInt32 := [
  0x428a2f98, 0x71374491, 0xb5c0fbcf, 0xe9b5dba5, 0x3956c25b, 0x59f111f1, 0x923f82a4, 0xab1c5ed5, 0xd807aa98, 0x12835b01, 0x243185be, 0x550c7dc3, 0x72be5d74, 0x80deb1fe, 0x9bdc06a7, 0xc19bf174,
  0xe49b69c1, 0xefbe4786, 0x0fc19dc6, 0x240ca1cc, 0x2de92c6f, 0x4a7484aa, 0x5cb0a9dc, 0x76f988da, 0x983e5152, 0xa831c66d, 0xb00327c8, 0xbf597fc7, 0xc6e00bf3, 0xd5a79147, 0x06ca6351, 0x14292967,
  0x27b70a85, 0x2e1b2138, 0x4d2c6dfc, 0x53380d13, 0x650a7354, 0x766a0abb, 0x81c2c92e, 0x92722c85, 0xa2bfe8a1, 0xa81a664b, 0xc24b8b70, 0xc76c51a3, 0xd192e819, 0xd6990624, 0xf40e3585, 0x106aa070,
  0x19a4c116, 0x1e376c08, 0x2748774c, 0x34b0bcb5, 0x391c0cb3, 0x4ed8aa4a, 0x5b9cca4f, 0x682e6ff3, 0x748f82ee, 0x78a5636f, 0x84c87814, 0x8cc70208, 0x90befffa, 0xa4506ceb, 0xbef9a3f7, 0xc67178f2]
def kAt (t : Nat) : UInt32 := kList.getD t 0
/-- The state behind n rounds. -/
def rnds (s : List UInt32) (ws : List UInt32) : Nat → List UInt32
  | 0 => s
  | n + 1 => rnd (rnds s ws n) (kAt n) (ws.getD n 0)
theorem rnd_len (v : List UInt32) (k w : UInt32) : (rnd v k w).length = v.length := by
  unfold rnd
  split <;> rfl
theorem rnds_len (s ws : List UInt32) (hs : s.length = 8) : ∀ n, (rnds s ws n).length = 8
  | 0 => hs
  | n + 1 => by rw [rnds, rnd_len, rnds_len s ws hs n]
/-- The state behind a block. -/
def comp (s : List UInt32) (bs : List UInt8) : List UInt32 := List.zipWith wadd s (rnds s (sch bs 64) 64)
theorem comp_len (s : List UInt32) (bs : List UInt8) (hs : s.length = 8) : (comp s bs).length = 8 := by
  simp [comp, rnds_len s _ hs, hs]

/-- A row of words. -/
def wrow (l : List UInt32) : Array Value := (l.map uv).toArray
theorem wrow_size (l : List UInt32) : (wrow l).size = l.length := by simp [wrow]
theorem wrow_at (l : List UInt32) (i : Nat) (h : i < l.length) : (wrow l)[i]? = some (uv (l.getD i 0)) := by
  simp [wrow, h]
/-- The schedule's array while it is filled. -/
def schRow (bs : List UInt8) (n : Nat) : Array Value := wrow (sch bs n ++ List.replicate (64 - n) 0)
theorem schRow_at (bs : List UInt8) (n i : Nat) (h : i < n) : (schRow bs n)[i]? = some (uv ((sch bs n).getD i 0)) := by
  have hl := sch_len bs n
  unfold schRow
  rw [wrow_at _ _ (by simp [hl]; omega)]
  congr 2
  simp [List.getD_eq_getElem?_getD, List.getElem?_append_left (by omega : i < (sch bs n).length)]
theorem schRow_size (bs : List UInt8) (n : Nat) (hn : n ≤ 64) : (schRow bs n).size = 64 := by
  simp [schRow, wrow_size, sch_len]; omega
theorem schRow_set (bs : List UInt8) (n : Nat) (hn : n < 64) : (schRow bs n).setIfInBounds n (uv (if n < 16 then wordB bs n else nextW (sch bs n) n)) = schRow bs (n + 1) := by
  unfold schRow wrow
  rw [List.setIfInBounds_toArray]
  congr 1
  have hl := sch_len bs n
  have e : 64 - n = (64 - (n + 1)) + 1 := by omega
  rw [sch, e, List.replicate_succ]
  generalize (if n < 16 then wordB bs n else nextW (sch bs n) n) = x
  simp [hl]
theorem schRow_next (bs : List UInt8) (n : Nat) (hn : n < 64) : (schRow bs n)[n]? = some (uv 0) := by
  have hl := sch_len bs n
  unfold schRow
  rw [wrow_at _ _ (by simp [hl]; omega)]
  congr 2
  rw [List.getD_eq_getElem?_getD, List.getElem?_append_right (by omega), List.getElem?_replicate, if_pos (by omega)]
  rfl
theorem or_parts (a b k : Nat) (hb : b < 2 ^ k) : 2 ^ k * a ||| b = 2 ^ k * a + b := (Nat.two_pow_add_eq_or_of_lt hb a).symm
theorem shl_part (x k : Nat) (h : x * 2 ^ k < 2 ^ 32) : x % 2 ^ 32 * 2 ^ k % 2 ^ 32 = 2 ^ k * x := by
  have h1 : x ≤ x * 2 ^ k := Nat.le_mul_of_pos_right _ (Nat.pow_pos (by decide))
  rw [Nat.mod_eq_of_lt (Nat.lt_of_le_of_lt h1 h), Nat.mod_eq_of_lt h, Nat.mul_comm]
theorem be4_wor (c0 c1 c2 c3 : UInt8) : wor (wor (wor (wshl (wbyte c0) 24) (wshl (wbyte c1) 16)) (wshl (wbyte c2) 8)) (wbyte c3) = be4 c0 c1 c2 c3 := by
  have h0 := c0.toNat_lt
  have h1 := c1.toNat_lt
  have h2 := c2.toNat_lt
  have h3 := c3.toNat_lt
  apply UInt32.toNat_inj.1
  unfold wor wshl wbyte be4
  rw [UInt32.toNat_or, UInt32.toNat_or, UInt32.toNat_or]
  simp only [UInt32.toNat_ofNat']
  generalize c0.toNat = x0 at *
  generalize c1.toNat = x1 at *
  generalize c2.toNat = x2 at *
  generalize c3.toNat = x3 at *
  have e0 := shl_part x0 24 (by omega)
  have e1 := shl_part x1 16 (by omega)
  have e2 := shl_part x2 8 (by omega)
  have e3 : x3 % 2 ^ 32 = x3 := Nat.mod_eq_of_lt (by omega)
  rw [e0, e1, e2, e3, or_parts x0 (2 ^ 16 * x1) 24 (by omega), show 2 ^ 24 * x0 + 2 ^ 16 * x1 = 2 ^ 16 * (256 * x0 + x1) by omega, or_parts _ (2 ^ 8 * x2) 16 (by omega),
    show 2 ^ 16 * (256 * x0 + x1) + 2 ^ 8 * x2 = 2 ^ 8 * (65536 * x0 + 256 * x1 + x2) by omega, or_parts _ x3 8 (by omega)]
  omega
theorem schRow_zero (bs : List UInt8) : schRow bs 0 = wrow (List.replicate 64 0) := by simp [schRow, sch]
theorem schRow_full (bs : List UInt8) : schRow bs 64 = wrow (sch bs 64) := by simp [schRow]
end Go.Proofs.YtheljogmnalbmaaDoor
