/-
  The walk of the law NumNames: it returns true and writes nothing that was there.
-/
import Derived.Test.YtffgkjcfffkahaaOneW
namespace Go.Proofs.Ytffgkjcfffkahaa
open Go.RowKit

set_option maxHeartbeats 1600000 in
theorem names_walk (w : World) : Calls Try.prog 7 #[] w fun e w' => e = .returned (.bool true) ∧ Below w.heap.size w w' := by
  have P1' : ∀ W, Calls Try.prog 9 #[.int .u64 258, .int .i64 1] W (GivesBI W 0 [] 4) := fun W => put_at 258 1 [] 4 (by decide) (by decide) W
  have P2' : ∀ W, Calls Try.prog 9 #[.int .u64 258, .int .i64 9] W (GivesBI W 0 [] 2) := fun W => put_at 258 9 [] 2 (by decide) (by decide) W
  have T1' : ∀ A n c lo W, Rd W lo 1 A n ([1].map bv) → n ≤ c → Calls Try.prog 17 #[.slice A n c, .int .i64 2] W (GivesNBI W 0 0 [] 10) := fun A n c lo W h hc => take_at [1] 2 0 [] 10 (by decide) (by decide) A n c lo W h hc
  have Q1' : ∀ A n c lo W, Rd W lo 1 A n ([7, 8].map bv) → Calls Try.prog 11 #[.slice A n c] W (GivesBI W 4 [0, 2, 7, 8] 0) := fun A n c lo W h => putPart_at [7, 8] [0, 2, 7, 8] 0 (by decide) A n c lo W h
  have U1' : ∀ A n c lo W, Rd W lo 1 A n (([0, 1, 9, 5] : List UInt8).map bv) → n ≤ c → Calls Try.prog 19 #[.slice A n c] W (GivesBBI W 1 1 [9] [5] 0) := fun A n c lo W h hc => takePart_at [0, 1, 9, 5] [9] [5] 0 (by decide) (by decide) A n c lo W h hc
  have U2' : ∀ A n c lo W, Rd W lo 1 A n (([0] : List UInt8).map bv) → n ≤ c → Calls Try.prog 19 #[.slice A n c] W (GivesBBI W 0 0 [] [] 10) := fun A n c lo W h hc => takePart_at [0] [] [] 10 (by decide) (by decide) A n c lo W h hc
  have U3' : ∀ A n c lo W, Rd W lo 1 A n (([0, 2, 9] : List UInt8).map bv) → n ≤ c → Calls Try.prog 19 #[.slice A n c] W (GivesBBI W 0 0 [] [] 10) := fun A n c lo W h hc => takePart_at [0, 2, 9] [] [] 10 (by decide) (by decide) A n c lo W h hc
  have U4' : ∀ A n c lo W, Rd W lo 1 A n (([16, 1] : List UInt8).map bv) → n ≤ c → Calls Try.prog 19 #[.slice A n c] W (GivesBBI W 0 0 [] [] 4) := fun A n c lo W h hc => takePart_at [16, 1] [] [] 4 (by decide) (by decide) A n c lo W h hc
  have P1 := hid P1'
  have P2 := hid P2'
  have T1 := hid T1'
  have Q1 := hid Q1'
  have U1 := hid U1'
  have U2 := hid U2'
  have U3 := hid U3'
  have U4 := hid U4'
  clear P1' P2' T1' Q1' U1' U2' U3' U4'
  go_enter Try.func7, Try.ntmps7
  go_wp2_with fail
  (with_reducible refine (P1.out w).mono ?_); rintro e w1 ⟨A1, a1, rfl, _, hb1⟩
  go_wp2_with fail
  (with_reducible refine (P2.out w1).mono ?_); rintro e w2 ⟨A2, a2, rfl, _, hb2⟩
  go_wp2_with fail
  (with_reducible refine (T1.out _ 1 1 w2.heap.size _ (Rd.bytes 1 #[.int .u8 1] [1] rfl rfl) (by omega)).mono ?_); rintro e w3 ⟨A3, a3, rfl, _, hb3'⟩
  have hb3 := below_al hb3'
  clear hb3'
  go_wp2_with fail
  (with_reducible refine (Q1.out _ 2 2 w3.heap.size _ (Rd.bytes 2 #[.int .u8 7, .int .u8 8] [7, 8] rfl rfl)).mono ?_); rintro e w4 ⟨A4, a4, rfl, ho4, hb4'⟩
  have hb4 := below_al hb4'
  clear hb4'
  go_wp2_with fail
  (with_reducible refine (U1.out _ 4 4 w4.heap.size _ (Rd.bytes 4 #[.int .u8 0, .int .u8 1, .int .u8 9, .int .u8 5] [0, 1, 9, 5] rfl rfl) (by omega)).mono ?_); rintro e w5 ⟨A5, a5, B5, b5, rfl, ra5, _, rb5, _, hb5'⟩
  have hb5 := below_al hb5'
  clear hb5'
  go_wp2_with fail
  (with_reducible refine (U2.out _ 1 1 w5.heap.size _ (Rd.bytes 1 #[.int .u8 0] [0] rfl rfl) (by omega)).mono ?_); rintro e w6 ⟨A6, a6, B6, b6, rfl, _, _, _, _, hb6'⟩
  have hb6 := below_al hb6'
  clear hb6'
  go_wp2_with fail
  (with_reducible refine (U3.out _ 3 3 w6.heap.size _ (Rd.bytes 3 #[.int .u8 0, .int .u8 2, .int .u8 9] [0, 2, 9] rfl rfl) (by omega)).mono ?_); rintro e w7 ⟨A7, a7, B7, b7, rfl, _, _, _, _, hb7'⟩
  have hb7 := below_al hb7'
  clear hb7'
  go_wp2_with fail
  (with_reducible refine (U4.out _ 2 2 w7.heap.size _ (Rd.bytes 2 #[.int .u8 16, .int .u8 1] [16, 1] rfl rfl) (by omega)).mono ?_); rintro e w8 ⟨A8, a8, B8, b8, rfl, _, _, _, _, hb8'⟩
  have hb8 := below_al hb8'
  clear hb8'
  have hb58 := below_step hb6 (below_step hb7 hb8)
  have hb48 := below_step hb5 hb58
  go_wp2_with fail
  (with_reducible refine (same_yes a4 4 ((ho4.below hb48).alloc _).rd (Rd.bytes 4 #[.int .u8 0, .int .u8 2, .int .u8 7, .int .u8 8] [0, 2, 7, 8] rfl rfl)).mono ?_); rintro e w9 ⟨rfl, hw9⟩
  have hb9 := below_al (below_eq hw9)
  clear hw9
  have hb59 := below_step hb58 hb9
  go_wp2_with fail
  (with_reducible refine (same_yes a5 1 ((ra5.below hb59).alloc _) (Rd.bytes 1 #[.int .u8 9] [9] rfl rfl)).mono ?_); rintro e w10 ⟨rfl, hw10⟩
  have hb10 := below_al (below_eq hw10)
  clear hw10
  have hb510 := below_step hb59 hb10
  go_wp2_with fail
  (with_reducible refine (same_yes b5 1 ((rb5.below hb510).alloc _) (Rd.bytes 1 #[.int .u8 5] [5] rfl rfl)).mono ?_); rintro e w11 ⟨rfl, hw11⟩
  have hb11 := below_al (below_eq hw11)
  clear hw11
  go_wp2_with fail
  (with_reducible refine (alive_any w11).mono ?_); rintro e w12 ⟨rfl, hb12⟩
  go_wp2_with fail
  (with_reducible refine (end_any _ 1 1 _).mono ?_); rintro e w13 ⟨rfl, hw13⟩
  have hb13 := below_al (below_eq hw13)
  clear hw13
  have e1 : endOf 1 = 11 := rfl
  have e0 : endOf 0 = 0 := rfl
  go_wp2_with fail
  (with_reducible refine (end_any none 0 0 w13).mono ?_); rintro e v13 ⟨rfl, rfl⟩
  go_wp2_with fail
  go_ret
  exact ⟨rfl, below_step hb1 (below_step hb2 (below_step hb3 (below_step hb4 (below_step hb5 (below_step hb510 (below_step hb11 (below_step hb12 hb13)))))))⟩
theorem numNames_law {w : World} : Calls Try.prog 7 #[] w fun e w' => e = .returned (.bool true) ∧ Below w.heap.size w w' := names_walk w
end Go.Proofs.Ytffgkjcfffkahaa
