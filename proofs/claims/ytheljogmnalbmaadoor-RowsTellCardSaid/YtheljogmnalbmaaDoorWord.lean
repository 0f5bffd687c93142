/-
  Words of 32 bits, as the model reckons them. No condition beyond those each theorem names.
-/
import Derived.Test.YtheljogmnalbmaaDoorKit
namespace Go.Proofs.YtheljogmnalbmaaDoor

/-- A word's value. -/
def uv (u : UInt32) : Value := .int .u32 (u.toNat : Int)
def wadd (a b : UInt32) : UInt32 := a + b
def wxor (a b : UInt32) : UInt32 := a ^^^ b
def wand (a b : UInt32) : UInt32 := a &&& b
def wor (a b : UInt32) : UInt32 := a ||| b
def wnot (a : UInt32) : UInt32 := ~~~a
def wshr (a : UInt32) (n : Nat) : UInt32 := UInt32.ofNat (a.toNat / 2 ^ n)
def wshl (a : UInt32) (n : Nat) : UInt32 := UInt32.ofNat (a.toNat * 2 ^ n)
/-- Turned to the right by n. -/
def wrot (a : UInt32) (n : Nat) : UInt32 := wor (wshr a n) (wshl a (32 - n))
/-- The word of a byte. -/
def wbyte (c : UInt8) : UInt32 := UInt32.ofNat c.toNat
/-- The low byte of a word. -/
def wlow (a : UInt32) : UInt8 := UInt8.ofNat a.toNat

theorem u32_wrap (x : Nat) : IntKind.u32.wrap (x : Int) = ((UInt32.ofNat x).toNat : Int) := by
  rw [UInt32.toNat_ofNat']
  simp [IntKind.wrap, IntKind.signed, IntKind.bits]
theorem ofInt_u32 (a : UInt32) : BitVec.ofInt 32 (a.toNat : Int) = a.toBitVec := by
  apply BitVec.eq_of_toNat_eq
  rw [BitVec.toNat_ofInt]
  have := a.toNat_lt
  simp
  omega
theorem w_add (a b : UInt32) : IntKind.u32.wrap ((a.toNat : Int) + (b.toNat : Int)) = ((wadd a b).toNat : Int) := by
  have := u32_wrap (a.toNat + b.toNat)
  rw [Int.natCast_add] at this
  rw [this]
  unfold wadd
  rw [UInt32.toNat_add, UInt32.toNat_ofNat']
theorem w_bits (k : BinOp) (a b c : UInt32) (h : (match k with | .and => a.toBitVec &&& b.toBitVec | .or => a.toBitVec ||| b.toBitVec | .xor => a.toBitVec ^^^ b.toBitVec | _ => a.toBitVec &&& ~~~b.toBitVec) = c.toBitVec) : bits k .u32 (a.toNat : Int) (b.toNat : Int) = (c.toNat : Int) := by
  unfold bits
  have e1 := ofInt_u32 a
  have e2 := ofInt_u32 b
  show IntKind.u32.wrap _ = _
  change IntKind.u32.wrap ((match k with | .and => BitVec.ofInt 32 (a.toNat : Int) &&& BitVec.ofInt 32 (b.toNat : Int) | .or => BitVec.ofInt 32 (a.toNat : Int) ||| BitVec.ofInt 32 (b.toNat : Int) | .xor => BitVec.ofInt 32 (a.toNat : Int) ^^^ BitVec.ofInt 32 (b.toNat : Int) | _ => BitVec.ofInt 32 (a.toNat : Int) &&& ~~~BitVec.ofInt 32 (b.toNat : Int)).toNat : Int) = _
  rw [e1, e2]
  rw [h, u32_wrap]
  congr 1
  have := c.toNat_lt
  rw [UInt32.toNat_ofNat']
  have : c.toBitVec.toNat = c.toNat := rfl
  omega
theorem w_xor (a b : UInt32) : bits .xor .u32 (a.toNat : Int) (b.toNat : Int) = ((wxor a b).toNat : Int) := w_bits .xor a b _ rfl
theorem w_and (a b : UInt32) : bits .and .u32 (a.toNat : Int) (b.toNat : Int) = ((wand a b).toNat : Int) := w_bits .and a b _ rfl
theorem w_or (a b : UInt32) : bits .or .u32 (a.toNat : Int) (b.toNat : Int) = ((wor a b).toNat : Int) := w_bits .or a b _ rfl
theorem w_shr (a : UInt32) (n : Nat) : (a.toNat : Int) / 2 ^ n = ((wshr a n).toNat : Int) := by
  unfold wshr
  have := a.toNat_lt
  rw [UInt32.toNat_ofNat', Nat.mod_eq_of_lt (Nat.lt_of_le_of_lt (Nat.div_le_self _ _) this), Int.natCast_ediv, Int.natCast_pow]
  rfl
theorem w_shl (a : UInt32) (n : Nat) : IntKind.u32.wrap ((a.toNat : Int) * 2 ^ n) = ((wshl a n).toNat : Int) := by
  have := u32_wrap (a.toNat * 2 ^ n)
  rw [Int.natCast_mul, Int.natCast_pow] at this
  rw [show ((2 : Int) ^ n) = ((2 : Nat) : Int) ^ n from rfl, this]
  rfl
theorem w_not (a : UInt32) : IntKind.u32.wrap (4294967295 - (a.toNat : Int)) = ((wnot a).toNat : Int) := by
  have h := a.toNat_lt
  have e : (4294967295 - (a.toNat : Int)) = ((4294967295 - a.toNat : Nat) : Int) := by omega
  rw [e, u32_wrap]
  congr 1
  unfold wnot
  rw [UInt32.toNat_ofNat', UInt32.toNat_not]
  simp only [UInt32.size]
  omega

/-! ### The operations on words, for the walk -/
section
variable (t : TypeId) (a b : UInt32)
theorem b_add : binOp .add t (.int .u32 (a.toNat : Int)) (.int .u32 (b.toNat : Int)) = pure (.int .u32 ((wadd a b).toNat : Int)) := by
  rw [← w_add]
  simp [binOp, Op.intArith]
theorem b_xor : binOp .xor t (.int .u32 (a.toNat : Int)) (.int .u32 (b.toNat : Int)) = pure (.int .u32 ((wxor a b).toNat : Int)) := by
  rw [← w_xor]
  simp [binOp, Op.intBits, bits]
theorem b_and : binOp .and t (.int .u32 (a.toNat : Int)) (.int .u32 (b.toNat : Int)) = pure (.int .u32 ((wand a b).toNat : Int)) := by
  rw [← w_and]
  simp [binOp, Op.intBits, bits]
theorem b_or : binOp .or t (.int .u32 (a.toNat : Int)) (.int .u32 (b.toNat : Int)) = pure (.int .u32 ((wor a b).toNat : Int)) := by
  rw [← w_or]
  simp [binOp, Op.intBits, bits]
theorem b_not : binOp .sub t (.int .u32 4294967295) (.int .u32 (a.toNat : Int)) = pure (.int .u32 ((wnot a).toNat : Int)) := by
  rw [← w_not]
  simp [binOp, Op.intArith]
theorem b_shr (yk : IntKind) (y : Int) (h0 : 0 ≤ y) (h : y ≤ 32) : binOp .shr t (.int .u32 (a.toNat : Int)) (.int yk y) = pure (.int .u32 ((wshr a y.toNat).toNat : Int)) := by
  rw [← w_shr]
  exact shift_shr .u32 yk _ _ h0 h
theorem b_shl (yk : IntKind) (y : Int) (h0 : 0 ≤ y) (h : y ≤ 32) : binOp .shl t (.int .u32 (a.toNat : Int)) (.int yk y) = pure (.int .u32 ((wshl a y.toNat).toNat : Int)) := by
  rw [← w_shl]
  exact shift_shl .u32 yk _ _ h0 h
theorem b_compl : Op.unary .xor (.int .u32 (a.toNat : Int)) = pure (.int .u32 ((wnot a).toNat : Int)) := by
  have h := w_xor 4294967295 a
  have e : wxor 4294967295 a = wnot a := by
    unfold wxor wnot
    apply UInt32.toBitVec_inj.1
    rw [UInt32.toBitVec_xor, UInt32.toBitVec_not]
    have h1 : (UInt32.toBitVec 4294967295) = BitVec.allOnes 32 := rfl
    rw [h1, BitVec.allOnes_xor]
  rw [e] at h
  rw [← h]
  simp [Op.unary, IntKind.signed, IntKind.max, IntKind.bits]
  rfl
end
end Go.Proofs.YtheljogmnalbmaaDoor
