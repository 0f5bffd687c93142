/-
  Contracts of the reference's digit, Hex and Read. No condition beyond those each theorem names.
-/
import Derived.Test.YtpmmgknehmkjlaaShaC
import Derived.Lib.IndexLaws
import Derived.Deep.AppendLies
import Derived.Test.YtpmmgknehmkjlaaStep
namespace Go.Proofs.Ytpmmgknehmkjlaa
open Go.RowKit

theorem u8_in (x : Int) (h : 0 ≤ x ∧ x < 256) : IntKind.u8.wrap x = x := by
  simp [IntKind.wrap, IntKind.signed, IntKind.bits]; omega

theorem dg_here {c : UInt8} {i : Nat} (h : hexDigits.data.toList[i]? = some c) (hn : ∀ j, j < i → hexDigits.data.toList[j]? ≠ some c) : dg c = (i : Int) := by
  have hb := dg_bd c
  rcases Int.lt_or_le (dg c) 0 with h0 | h0
  · have : dg c = -1 := by omega
    exact absurd h (Lib.indexByte_none this i)
  · obtain ⟨o, ho⟩ := Int.eq_ofNat_of_zero_le h0
    obtain ⟨h1, h2⟩ := Lib.indexByte_some ho
    rw [ho]
    rcases Nat.lt_trichotomy o i with hlt | rfl | hgt
    · exact absurd h1 (hn o hlt)
    · rfl
    · exact absurd h (h2 i hgt)
theorem dg_none {c : UInt8} (hn : ∀ j, j < 16 → hexDigits.data.toList[j]? ≠ some c) : dg c = -1 := by
  have hb := dg_bd c
  rcases Int.lt_or_le (dg c) 0 with h0 | h0
  · omega
  · obtain ⟨o, ho⟩ := Int.eq_ofNat_of_zero_le h0
    exact absurd (Lib.indexByte_some ho).1 (hn o (by omega))

set_option maxHeartbeats 1000000 in
theorem digit_any (c : UInt8) (w : World) : Calls Try.prog 9 #[.int .u8 (c.toNat : Int)] w fun e w' => e = .returned (.int .i64 (dg c)) ∧ w = w' := by
  go_enter Try.func9, Try.ntmps9
  go_wp2
  go_loop [3] (fun i => ∃ k : Nat, k ≤ 16 ∧ i = .int .i64 k ∧ ∀ j, j < k → hexDigits.data.toList[j]? ≠ some c) (fun i => 16 - (intOf i).toNat)
  case atStart => exact ⟨0, Nat.zero_le _, rfl, fun j hj => by omega⟩
  case round =>
    obtain ⟨k, hk, rfl, hn⟩ := hrel
    have HN := hid hn
    clear hn
    by_cases hlt : k < 16
    · have hkk : k < hexDigits.size := by rw [hexDigits_size]; exact hlt
      have hx : hexDigits.data.toList[k]? = some (hexDigits[k]'hkk) := List.getElem?_eq_getElem (by simpa using hkk)
      have HX := hid hx
      clear hx
      go_wp2
      · have ht : (((hexDigits[k]'hkk).toNat : Int) == (c.toNat : Int)) = true := by assumption
        have he : hexDigits[k]'hkk = c := by
          have := beq_iff_eq.1 ht
          exact UInt8.toNat_inj.1 (by omega)
        have hr := dg_here (by rw [HX.out, he]) HN.out
        go_ret
        exact ⟨by rw [hr]; rfl, rfl⟩
      · have ht : (((hexDigits[k]'hkk).toNat : Int) == (c.toNat : Int)) = false := by assumption
        have he : hexDigits[k]'hkk ≠ c := by
          intro h
          rw [h] at ht
          simp at ht
        go_round
        case rel =>
          refine ⟨k + 1, by omega, by go_num, fun j hj => ?_⟩
          by_cases e : j = k
          · subst e
            rw [HX.out]
            intro h
            exact he (by injection h)
          · exact HN.out j (by omega)
        case measure => simp [intOf]; omega
    · have : k = 16 := by omega
      subst this
      have hr := hid (dg_none HN.out)
      go_wp2
      go_ret
      exact ⟨by rw [hr.out]; rfl, rfl⟩

theorem run_index_hex (n : Nat) (h : n < 16) (W : World) : (Instr.index 9 (.string ⟨#[48, 49, 50, 51, 52, 53, 54, 55, 56, 57, 97, 98, 99, 100, 101, 102]⟩) (.int .u8 (n : Int))).run Try.prog W = .ok (.int .u8 ((hexd n).toNat : Int)) W := by
  have hn : n < hexDigits.size := by rw [hexDigits_size]; exact h
  have hx := hexd_get n hn
  have h2 : (⟨#[48, 49, 50, 51, 52, 53, 54, 55, 56, 57, 97, 98, 99, 100, 101, 102]⟩ : ByteArray)[n]? = some (hexd n) := by
    rw [← hx]
    exact getElem?_pos hexDigits n hn
  have h0 : (0 : Int) ≤ (n : Int) := by omega
  simp [Instr.index, asIntOf, run_underlying Try.underlying9, h2]

/-! ### the reference's Hex: an append of two letters in each round -/
set_option maxHeartbeats 1000000 in
theorem refHex_any (ds : List UInt8) (D : Array Value) (hD : D = (ds.map bv).toArray) (hl : ds.length = 32) (w : World) :
    Calls Try.prog 7 #[.agg D] w fun e w' => e = .returned (.string ⟨(hexOf ds).toArray⟩) ∧ Below w.heap.size w w' := by
  have hDs : D.size = 32 := by rw [hD]; simpa using hl
  have hDk : ∀ k, k < 32 → ∃ d : UInt8, ds[k]? = some d ∧ D[k]? = some (bv d) := fun k hk => by
    have h := List.getElem?_eq_getElem (l := ds) (i := k) (by omega)
    exact ⟨_, h, by rw [hD]; simp [h]⟩
  obtain ⟨i0, hi0, hz0, hz1, hz2⟩ := info_parts Try.Builder_Extra_169.infoByte
  have HDk := hid hDk
  have HDs := hid hDs
  clear hDk hDs hD
  go_enter Try.func7, Try.ntmps7
  go_wp2_with (refine wpList_bx rfl 23 _ rfl D rfl ?_; intro w1 hB1 hb1 hz1)
  have hs1 := hb1.size
  clear hz1
  go_loopw [3, 4] (fun v i wr => ∃ (k : Nat) (A : Option Addr) (m c : Nat), k ≤ 32 ∧ i = .int .i64 k ∧ v = .slice A m c ∧ m = 2 * k ∧ Own wr (w.heap.size + 1) 5 1 A m c ((hexOf (ds.take k)).map bv) ∧ Blk wr w.heap.size 23 D ∧ Below w.heap.size w wr ∧ w.heap.size + 1 ≤ wr.heap.size) (fun _ i _ => 32 - (intOf i).toNat)
  case atStart => exact ⟨0, none, 0, 0, Nat.zero_le _, rfl, rfl, rfl, Own.nil _ _ _ _ _, hB1, hb1, by have := hB1.lt; omega⟩
  case round =>
    obtain ⟨k, A, m, c, hk, rfl, rfl, hm, ho, hB, hb, hs⟩ := hrel
    by_cases hlt : k < 32
    · obtain ⟨d, hd, hDd⟩ := HDk.out k hlt
      have hdl := d.toNat_lt
      have hcell := hB.cellv hDd
      unfold bv at hcell
      have HM := hid hm
      have hmb : m ≤ 64 := by omega
      clear hm
      have j1 : ∀ W, (Instr.index 9 (.string ⟨#[48, 49, 50, 51, 52, 53, 54, 55, 56, 57, 97, 98, 99, 100, 101, 102]⟩) (.int .u8 ((d.toNat : Int) / 16))).run Try.prog W = .ok (.int .u8 ((hexd (d.toNat / 16)).toNat : Int)) W := fun W => by
        have := run_index_hex (d.toNat / 16) (by omega) W
        simpa using this
      have j2 : ∀ W, (Instr.index 9 (.string ⟨#[48, 49, 50, 51, 52, 53, 54, 55, 56, 57, 97, 98, 99, 100, 101, 102]⟩) (.int .u8 ((d.toNat : Int).tmod 16))).run Try.prog W = .ok (.int .u8 ((hexd (d.toNat % 16)).toNat : Int)) W := fun W => by
        rw [Int.tmod_eq_emod_of_nonneg (by omega)]
        have := run_index_hex (d.toNat % 16) (by omega) W
        simpa using this
      have e1 : IntKind.u8.wrap ((d.toNat : Int) / 16) = (d.toNat : Int) / 16 := u8_in _ (by omega)
      go_wp2_with fail
      go_region_held3 (fun w' => w'.cell? ⟨w.heap.size, k, none⟩ = some (.int .u8 (d.toNat : Int))) (first | go_keep | (rw [hg3.cell_far _ (by simp; omega) (by simp; intro h; have := ho.row_lt _ h.symm; omega)]; assumption))
        ((refine step_app (by rfl) _ _ _ (by rfl) (w.heap.size + 1) 5 i0 _ 1 1 Try.underlying35 hi0 hz0 hz1 hz2 rfl (by omega) A m c _ (by rfl) (ho.drew.alloc _) _ 2 2 wr.heap.size [bv (hexd (d.toNat / 16)), bv (hexd (d.toNat % 16))] (by rfl) (Rd.lit wr.drew 5 2 [bv (hexd (d.toNat / 16)), bv (hexd (d.toNat % 16))] rfl) (bv_one [hexd (d.toNat / 16), hexd (d.toNat % 16)]) (by simp only [maxLen]; omega) (by omega) (by simp; omega) ?_; intro D2 d2 w3 ho3 hg3 ht3))
      all_goals
        have ho4 : Own w3 (w.heap.size + 1) 5 1 D2 (m + 2) d2 ((hexOf (ds.take (k + 1))).map bv) := by
          rw [hexOf_snoc ds k d hd]
          simpa using ho3
        have hb3 : Below (w.heap.size + 1) wr w3 := (ho.drew.alloc (.cells #[bv (hexd (d.toNat / 16)), bv (hexd (d.toNat % 16))] 5)).grows hg3 ((Below.refl (w.heap.size + 1) wr).drew.alloc (w := wr.drew) hs _) (by simp; omega)
        have hb4 : Below w.heap.size w w3 := hb.trans (hb3.mono (Nat.le_succ _))
        have hs3 := Nat.le_trans hs hb3.size
        have hB3 := hB.below hb3 (Nat.lt_succ_self _)
        clear hg3 ht3 ho3 hb3
        go_wp2_with fail
        exact ⟨⟨k + 1, D2, m + 2, d2, by omega, by go_num, rfl, by have := HM.out; omega, ho4, hB3, hb4, hs3⟩, by simp [intOf]; omega⟩
    · have : k = 32 := by omega
      subst this
      have e : ds.take 32 = ds := List.take_of_length_le (by omega)
      rw [e] at ho
      have hm64 : m = 64 := by omega
      subst hm64
      have hr := run_bytes_string (P := Try.prog) wr 35 5 9 Try.underlying35 Try.underlying5 Try.underlying9 A 64 c _ (hexOf ds) ho.rd
      go_wp2_with fail
      go_ret
      exact ⟨rfl, hb⟩
end Go.Proofs.Ytpmmgknehmkjlaa
