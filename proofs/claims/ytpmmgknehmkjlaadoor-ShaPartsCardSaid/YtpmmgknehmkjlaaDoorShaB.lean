/-
  Contract of sha.Hex: a digest's text. No condition beyond those each theorem names.
-/
import Derived.Test.YtpmmgknehmkjlaaDoorShaA
namespace Go.Proofs.YtpmmgknehmkjlaaDoor
open Go.RowKit

/-- 'a[k]' of an array value of one-cell elements. -/
theorem run_index_arr {P : Program} {t e : TypeId} {n : Nat} {cs : Array Value} {k : Nat} {v : Value} (ht : P.underlying t = some (.array n e)) (he : ∀ w, (sizeOf e).run P w = .ok 1 w) (hk : k < n) (hv : cs[k]? = some v) (hag : ∀ w, (isAgg e).run P w = .ok false w) (w : World) :
    (Instr.index t (.agg cs) (.int .i64 (k : Int))).run P w = .ok v w := by
  have hs : k < cs.size := (Array.getElem?_eq_some_iff.1 hv).1
  have hp : (part e cs k).run P w = .ok v w := by simp [part, hag, hv]
  simp [Instr.index, asIntOf, run_underlying ht, he, hk, hp]

/-- The digits to the base of 16. -/
def hexDigits : ByteArray := ⟨#[48, 49, 50, 51, 52, 53, 54, 55, 56, 57, 97, 98, 99, 100, 101, 102]⟩
def hexd (n : Nat) : UInt8 := hexDigits.data.toList.getD n 0
theorem hexd_get (n : Nat) (h : n < hexDigits.size) : hexDigits[n]'h = hexd n := by
  unfold hexd
  rw [List.getD_eq_getElem?_getD, List.getElem?_eq_getElem (by simpa using h)]
  rfl
theorem hexDigits_size : hexDigits.size = 16 := by decide
theorem byteCells_snoc (l : List UInt8) (b : UInt8) : Lib.byteCells (l ++ [b]) = Lib.byteCells l ++ [.int .u8 (b.toNat : Int)] := by simp [Lib.byteCells]
/-- A digest's text. -/
def hexOf (ds : List UInt8) : List UInt8 := ds.flatMap fun d => [hexd (d.toNat / 16), hexd (d.toNat % 16)]
theorem hexOf_snoc (ds : List UInt8) (k : Nat) (d : UInt8) (h : ds[k]? = some d) : hexOf (ds.take (k + 1)) = hexOf (ds.take k) ++ [hexd (d.toNat / 16)] ++ [hexd (d.toNat % 16)] := by
  rw [List.take_add_one, h]
  simp [hexOf]
theorem hexOf_len (ds : List UInt8) : (hexOf ds).length = 2 * ds.length := by
  induction ds with
  | nil => rfl
  | cons d ds ih => simp [hexOf] at ih ⊢; omega

set_option maxHeartbeats 1000000 in
theorem hex_any (ds : List UInt8) (D : Array Value) (hD : D = (ds.map bv).toArray) (hl : ds.length = 32) (w : World) :
    Calls Tryd.prog 14 #[.agg D] w fun e w' => e = .returned (.string ⟨(hexOf ds).toArray⟩) ∧ Below w.heap.size w w' := by
  have hDs : D.size = 32 := by rw [hD]; simpa using hl
  have hDk : ∀ k, k < 32 → ∃ d : UInt8, ds[k]? = some d ∧ D[k]? = some (bv d) := fun k hk => by
    have h := List.getElem?_eq_getElem (l := ds) (i := k) (by omega)
    exact ⟨_, h, by rw [hD]; simp [h]⟩
  have hi0 : (Tryd.prog.info? 25).map (·.size) = some D.size := by rw [hDs]; kernel_rfl
  have HDk := hid hDk
  have HDs := hid hDs
  clear hDk hDs hD
  go_enter Tryd.func14, Tryd.ntmps14
  go_wp2_with (first
    | (refine wpList_bx rfl 25 _ rfl D rfl ?_; intro w1 hB1 hb1 hz1)
    | (refine wpList_ldr rfl 25 _ rfl w.heap.size rfl _ D _ (hB1.alloc _) Tryd.underlying25 rfl hi0 ?_))
  have hI0 := Lib.fresh_isBuilder 51 5 w1
  rw [hz1] at hI0
  have hb0 := hb1.alloc hb1.size (.cells #[Value.pointer none, .slice none 0 0] 51)
  have hs0 : w.heap.size + 1 ≤ (w1.alloc (.cells #[Value.pointer none, .slice none 0 0] 51)).heap.size := by simp; omega
  have hix := fun (k : Nat) (v : Value) (h : k < 32) (hv : D[k]? = some v) => run_index_arr (P := Tryd.prog) (t := 25) Tryd.underlying25 Tryd.sizeOf5 h hv Tryd.isAgg5
  have HIX := hid hix
  clear hix
  go_loopw [5, 7] (fun _ i wr => ∃ k : Nat, k ≤ 32 ∧ i = .int .i64 k ∧ Lib.IsBuilder 51 5 (w.heap.size + 1) (w.heap.size + 1) (Lib.byteCells (hexOf (ds.take k))) wr ∧ Below w.heap.size w wr ∧ w.heap.size + 1 ≤ wr.heap.size) (fun _ i _ => 32 - (intOf i).toNat)
  case atStart => exact ⟨0, Nat.zero_le _, rfl, hI0, hb0, hs0⟩
  case round =>
    obtain ⟨k, hk, rfl, hI, hb, hs⟩ := hrel
    by_cases hlt : k < 32
    · obtain ⟨d, hd, hDd⟩ := HDk.out k hlt
      have hdl := d.toNat_lt
      have hi := HIX.out k _ hlt hDd wr
      unfold bv at hi
      have hlen := hexOf_len (ds.take k)
      have hlt2 : (ds.take k).length ≤ 32 := by rw [List.length_take]; omega
      have g1 := hexd_get (d.toNat / 16) (by rw [hexDigits_size]; omega)
      have g2 := hexd_get (d.toNat % 16) (by rw [hexDigits_size]; omega)
      have G1 := hid g1
      have G2 := hid g2
      have hbl := Lib.byteCells_length (hexOf (ds.take k))
      have HS := hid (hexOf_snoc ds k d hd)
      clear g1 g2 hd
      go_wp2_with fail
      (with_reducible refine (writeByte_any _ _ _ _ wr hI (by omega) hs).mono ?_); rintro e wr1 ⟨rfl, hI1, hb1⟩
      have hI1' : Lib.IsBuilder 51 5 (w.heap.size + 1) (w.heap.size + 1) (Lib.byteCells (hexOf (ds.take k) ++ [hexd (d.toNat / 16)])) wr1 := by
        rw [byteCells_snoc, ← G1.out]
        exact .inr hI1
      have hs1 : w.heap.size + 1 ≤ wr1.heap.size := Nat.le_trans hs hb1.size
      clear hI1
      go_wp2_with fail
      (with_reducible refine (writeByte_any _ _ _ _ wr1 hI1' (by rw [byteCells_snoc, List.length_append]; simp only [List.length_singleton]; omega) hs1).mono ?_); rintro e wr2 ⟨rfl, hI2, hb2⟩
      have hI2' : Lib.IsBuilder 51 5 (w.heap.size + 1) (w.heap.size + 1) (Lib.byteCells (hexOf (ds.take (k + 1)))) wr2 := by
        rw [HS.out, byteCells_snoc, ← G2.out]
        exact .inr hI2
      clear hI2
      go_wp2_with fail
      go_roundw
      case rel => exact ⟨k + 1, by omega, by go_num, hI2', hb.trans ((hb1.trans hb2).mono (by omega)), Nat.le_trans hs1 hb2.size⟩
      case measure => simp [intOf]; omega
    · have : k = 32 := by omega
      subst this
      have e : ds.take 32 = ds := List.take_of_length_le (by omega)
      rw [e] at hI
      go_wp2_with fail
      (with_reducible refine (Tryd.Builder_String_any _ _ (hexOf ds) wr hI hs).mono ?_); rintro e w3 ⟨rfl, hb3⟩
      go_wp2_with fail
      go_ret
      exact ⟨rfl, hb.trans (hb3.mono (by omega))⟩
end Go.Proofs.YtpmmgknehmkjlaaDoor
