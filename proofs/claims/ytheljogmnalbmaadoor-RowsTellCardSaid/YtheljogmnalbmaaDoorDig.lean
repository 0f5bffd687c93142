/-
  Digests: two of them compared; a block that is known whole, as a range. No condition beyond those each theorem names.
-/
import Derived.Test.YtheljogmnalbmaaDoorArr
import Derived.ChangeKeysEq
import Derived.Laws.StructEq
import Derived.Deep.RegionHeld3
namespace Go.Proofs.YtheljogmnalbmaaDoor
open Go.RowKit

theorem cellsOf_byte : Tryd.prog.cellsOf 5 = 1 := by kernel_rfl
theorem run_part_byte (xs : List UInt8) (i : Nat) (c : UInt8) (h : xs[i]? = some c) (w : World) : (part 5 (xs.map bv).toArray i).run Tryd.prog w = .ok (bv c) w := by
  apply run_part_plain w (by kernel_rfl)
  simp [h]
theorem run_eqItems_bytes (xs ys : List UInt8) (hl : xs.length = ys.length) (w : World) : ∀ (k i : Nat), i + k = xs.length →
    (Op.eqItems 9999 5 (Tryd.prog.cellsOf 5) (xs.map bv).toArray (ys.map bv).toArray (List.range' i k)).run Tryd.prog w = .ok (decide (xs.drop i = ys.drop i)) w
  | 0, i, h => by
    rw [List.drop_of_length_le (by omega), List.drop_of_length_le (by omega)]
    simp [Op.eqItems]
  | k + 1, i, h => by
    have hx : xs[i]? = some (xs[i]'(by omega)) := List.getElem?_eq_getElem (by omega)
    have hy : ys[i]? = some (ys[i]'(by omega)) := List.getElem?_eq_getElem (by omega)
    have ih := run_eqItems_bytes xs ys hl w k (i + 1) (by omega)
    have dx : xs.drop i = xs[i]'(by omega) :: xs.drop (i + 1) := List.drop_eq_getElem_cons (by omega)
    have dy : ys.drop i = ys[i]'(by omega) :: ys.drop (i + 1) := List.drop_eq_getElem_cons (by omega)
    rw [dx, dy]
    generalize xs[i]'(by omega) = c at *
    generalize ys[i]'(by omega) = d at *
    rw [List.range'_succ]
    have h1 := run_part_byte xs (i * Tryd.prog.cellsOf 5) c (by rw [cellsOf_byte, Nat.mul_one]; exact hx) w
    have h2 := run_part_byte ys (i * Tryd.prog.cellsOf 5) d (by rw [cellsOf_byte, Nat.mul_one]; exact hy) w
    have h3 : (Op.equalIn 9999 5 (bv c) (bv d)).run Tryd.prog w = .ok ((c.toNat : Int) == (d.toNat : Int)) w := run_equalIn_int w 9998 5 .u8 .u8 _ _ Tryd.underlying5
    simp only [Op.eqItems, Sem.run_bind, h1, h2, h3, Result.andThen_ok]
    by_cases e : c = d
    · subst e
      simp [ih]
    · have : ((c.toNat : Int) == (d.toNat : Int)) = false := by
        rw [beq_eq_false_iff_ne]
        intro h
        exact e (UInt8.toNat_inj.1 (by omega))
      simp [this, e]
theorem run_eq_dig (xs ys : List UInt8) (h1 : xs.length = 32) (h2 : ys.length = 32) (w : World) : (Op.equalIn 10000 23 (.agg (xs.map bv).toArray) (.agg (ys.map bv).toArray)).run Tryd.prog w = .ok (decide (xs = ys)) w := by
  obtain ⟨i, hi⟩ := info_of_underlying (P := Tryd.prog) (t := 5) Tryd.underlying5
  rw [show (10000 : Nat) = 9999 + 1 from rfl, run_equalIn_array w 9999 _ _ Tryd.underlying23 hi, List.range_eq_range']
  simpa using run_eqItems_bytes xs ys (by omega) w 32 0 (by omega)

theorem Blk.range {w : World} {g : Nat} {t : TypeId} {cs : Array Value} (h : Blk w g t cs) : w.rangeAt g 0 cs.toList := by
  have := World.rangeAt_of_block h 0 cs.size
  simpa using this
theorem range_below {w w' : World} {b o : Nat} {cs : List Value} (h : w.rangeAt b o cs) (hb : Below w.heap.size w w') : w'.rangeAt b o cs := fun j v hv => by
  have h1 := h j v hv
  rw [← h1]
  exact World.cell?_of_block (hb.block b (World.block_lt_of_cell? w _ h1))
end Go.Proofs.YtheljogmnalbmaaDoor
