/-
  The walk of the law ShaBack: at every digest and text it returns true and writes nothing that was there, the table k standing in its variable.
-/
import Derived.Test.YtpmmgknehmkjlaaDoorShaNamesW
namespace Go.Proofs.YtpmmgknehmkjlaaDoor
open Go.RowKit

theorem hexOf_cons (d : UInt8) (ds : List UInt8) : hexOf (d :: ds) = hexd (d.toNat / 16) :: hexd (d.toNat % 16) :: hexOf ds := rfl
theorem hexOf_even : ∀ (ds : List UInt8) (j : Nat), j < ds.length → (hexOf ds).getD (2 * j) 0 = hexd ((ds.getD j 0).toNat / 16) ∧ (hexOf ds).getD (2 * j + 1) 0 = hexd ((ds.getD j 0).toNat % 16)
  | [], j, h => absurd h (Nat.not_lt_zero _)
  | d :: ds, 0, _ => ⟨rfl, rfl⟩
  | d :: ds, j + 1, h => by
    have := hexOf_even ds j (by simpa using h)
    rw [hexOf_cons, show 2 * (j + 1) = 2 * j + 1 + 1 by omega, show 2 * j + 1 + 1 + 1 = (2 * j + 1) + 1 + 1 by omega]
    simpa using this
theorem dg_of (n : Nat) (h : n < 16) : dg (hexd n) = (n : Int) := dg_hexd ⟨n, h⟩
theorem rdAt_hex (ds : List UInt8) (hl : ds.length = 32) (j : Nat) (hj : j < 32) : rdAt (hexOf ds) 64 j = ds.getD j 0 := by
  obtain ⟨h1, h2⟩ := hexOf_even ds j (by omega)
  have hb := (ds.getD j 0).toNat_lt
  unfold rdAt
  rw [if_pos (by omega), h1, h2, dg_of _ (by omega), dg_of _ (by omega)]
  apply UInt8.toNat_inj.1
  rw [UInt8.toNat_ofNat']
  simp only [Int.toNat_natCast]
  omega
theorem readOf_hex (ds : List UInt8) (hl : ds.length = 32) : readOf (hexOf ds) = (ds, 0) := by
  have hlen : (hexOf ds).length = 64 := by rw [hexOf_len, hl]
  have hok : okHex (hexOf ds) = true := by
    unfold okHex
    rw [Bool.and_eq_true]
    refine ⟨by rw [hlen]; rfl, ?_⟩
    rw [List.all_eq_true]
    intro c hc
    obtain ⟨i, hi, rfl⟩ := List.mem_iff_getElem.1 hc
    have h1 : (hexOf ds)[i] = (hexOf ds).getD i 0 := by rw [List.getD_eq_getElem?_getD, List.getElem?_eq_getElem hi]; rfl
    have hb := (ds.getD (i / 2) 0).toNat_lt
    obtain ⟨e1, e2⟩ := hexOf_even ds (i / 2) (by omega)
    rcases Nat.mod_two_eq_zero_or_one i with hp | hp
    · rw [show 2 * (i / 2) = i by omega] at e1
      rw [h1, e1, dg_of _ (by omega)]
      simp
      omega
    · rw [show 2 * (i / 2) + 1 = i by omega] at e2
      rw [h1, e2, dg_of _ (by omega)]
      simp
      omega
  unfold readOf
  rw [if_pos hok]
  congr 1
  apply List.ext_getElem?
  intro j
  by_cases hj : j < 32
  · rw [rdL, List.getElem?_map, List.getElem?_range hj, Option.map_some, rdAt_hex ds hl j hj, List.getD_eq_getElem?_getD, List.getElem?_eq_getElem (by omega)]
    rfl
  · rw [List.getElem?_eq_none (by rw [rdL_len]; omega), List.getElem?_eq_none (by omega)]
theorem hexOf_rd (l : List UInt8) (h : okHex l = true) : hexOf (rdL l 64) = l := by
  unfold okHex at h
  rw [Bool.and_eq_true, List.all_eq_true] at h
  obtain ⟨hl, ha⟩ := h
  have hl : l.length = 64 := by simpa using hl
  have hlen : (hexOf (rdL l 64)).length = 64 := by rw [hexOf_len, rdL_len]
  have hat : ∀ i, i < 64 → 0 ≤ dg (l.getD i 0) := fun i hi => by
    have := ha _ (List.getElem_mem (show i < l.length by omega))
    rw [List.getD_eq_getElem?_getD, List.getElem?_eq_getElem (by omega)]
    simpa using this
  have hval : ∀ j, j < 32 → ((rdL l 64).getD j 0).toNat = 16 * (dg (l.getD (2 * j) 0)).toNat + (dg (l.getD (2 * j + 1) 0)).toNat := fun j hj => by
    have b1 := dg_bd (l.getD (2 * j) 0)
    have b2 := dg_bd (l.getD (2 * j + 1) 0)
    rw [rdL, List.getD_eq_getElem?_getD, List.getElem?_map, List.getElem?_range hj]
    simp only [Option.map_some, Option.getD_some]
    unfold rdAt
    rw [if_pos (by omega), UInt8.toNat_ofNat']
    omega
  have hget : ∀ i, i < 64 → (hexOf (rdL l 64)).getD i 0 = l.getD i 0 := fun i hi => by
    obtain ⟨e1, e2⟩ := hexOf_even (rdL l 64) (i / 2) (by rw [rdL_len]; omega)
    have hv := hval (i / 2) (by omega)
    have b1 := dg_bd (l.getD (2 * (i / 2)) 0)
    have b2 := dg_bd (l.getD (2 * (i / 2) + 1) 0)
    rcases Nat.mod_two_eq_zero_or_one i with hp | hp
    · have ei : 2 * (i / 2) = i := by omega
      rw [ei] at e1
      rw [e1, hv, show (16 * (dg (l.getD (2 * (i / 2)) 0)).toNat + (dg (l.getD (2 * (i / 2) + 1) 0)).toNat) / 16 = (dg (l.getD (2 * (i / 2)) 0)).toNat by omega, b1.2.2 (by rw [ei]; exact hat i hi), ei]
    · have ei : 2 * (i / 2) + 1 = i := by omega
      rw [ei] at e2
      rw [e2, hv, show (16 * (dg (l.getD (2 * (i / 2)) 0)).toNat + (dg (l.getD (2 * (i / 2) + 1) 0)).toNat) % 16 = (dg (l.getD (2 * (i / 2) + 1) 0)).toNat by omega, b2.2.2 (by rw [ei]; exact hat i hi), ei]
  apply List.ext_getElem?
  intro i
  by_cases hi : i < 64
  · have := hget i hi
    rw [List.getD_eq_getElem?_getD, List.getD_eq_getElem?_getD, List.getElem?_eq_getElem (by omega), List.getElem?_eq_getElem (by omega)] at this
    rw [List.getElem?_eq_getElem (by omega), List.getElem?_eq_getElem (by omega)]
    simpa using this
  · rw [List.getElem?_eq_none (by omega), List.getElem?_eq_none (by omega)]

theorem str_back (s : ByteArray) : (⟨s.data.toList.toArray⟩ : ByteArray) = s := rfl

set_option maxHeartbeats 1000000 in
theorem back_long (D : Array Value) (s : ByteArray) (w : World) (h : 200 < s.size) (hK : KOk w) :
    Calls Tryd.prog 6 #[.agg D, .string s] w fun e w' => e = .returned (.bool true) ∧ Below w.heap.size w w' := by
  go_enter Tryd.func6, Tryd.ntmps6
  go_wp2_with (refine wpList_bx rfl 25 _ rfl D rfl ?_; intro w1 hB1 hb1 hz1)
  (with_reducible refine (alive_any w1 (hK.below hb1)).mono ?_); rintro e w2 ⟨rfl, hb2⟩
  go_wp2_with fail
  go_ret
  exact ⟨rfl, below_step hb1 hb2⟩

set_option maxRecDepth 100000 in
set_option maxHeartbeats 4000000 in
theorem back_yes (ds : List UInt8) (hl : ds.length = 32) (D : Array Value) (hD : D = (ds.map bv).toArray) (s : ByteArray) (w : World) (h : s.size ≤ 200) (ys : List UInt8) (hys : ys.length = 32) (hr : readOf s.data.toList = (ys, 0)) (hx : hexOf ys = s.data.toList) (hK : KOk w) :
    Calls Tryd.prog 6 #[.agg D, .string s] w fun e w' => e = .returned (.bool true) ∧ Below w.heap.size w w' := by
  have hR1 := hid (fun W => read_any ⟨(hexOf ds).toArray⟩ W)
  have e1 : readOf ((⟨(hexOf ds).toArray⟩ : ByteArray).data.toList) = (ds, 0) := readOf_hex ds hl
  rw [e1] at hR1
  have hR2 := hid (fun W => read_any s W)
  rw [hr] at hR2
  unfold GivesDI at hR1 hR2
  have hH1 := hid (fun W => hex_any ds _ rfl hl W)
  have hH2 := hid (fun W => hex_any ys _ rfl hys W)
  rw [hx, str_back] at hH2
  generalize (⟨(hexOf ds).toArray⟩ : ByteArray) = t at *
  have HE := run_eq_dig ds ds hl hl
  have hzD := digS ds hl
  have hzY := digS ys hys
  have hoD := oneBv' ds
  have hoY := oneBv' ys
  have hsD : ((ds.map bv).toArray).size = zeroD.size := by simp [hl]; rfl
  have hsY : ((ys.map bv).toArray).size = zeroD.size := by simp [hys]; rfl
  rw [← hD] at *
  generalize (ys.map bv).toArray = Y at *
  clear hD e1 hr hx hys hl
  go_enter Tryd.func6, Tryd.ntmps6
  go_wp2_with (refine wpList_bx rfl 25 _ rfl D rfl ?_; intro w1 hB1 hb1 hz1)
  (with_reducible refine (alive_any w1 (hK.below hb1)).mono ?_); rintro e w2 ⟨rfl, hb2⟩
  have hB2 := hB1.belowS hb2
  have hb02 := below_step hb1 hb2
  clear hB1 hb1 hz1 hb2
  go_wp2_with (refine wpList_ldr rfl 25 _ rfl w.heap.size rfl _ D _ hB2 Tryd.underlying25 rfl hzD ?_)
  (with_reducible refine (hH1.out w2).mono ?_); rintro e w3 ⟨rfl, hb3⟩
  go_wp2_with fail
  (with_reducible refine (hR1.out w3).mono ?_); rintro e w4 ⟨rfl, hb4⟩
  have hb24 := below_step hb3 hb4
  have hB4 := hB2.belowS hb24
  have hb04 := below_step hb02 hb24
  clear hB2 hb3 hb4 hb24 hb02
  go_wp2_with (first
    | (refine wpList_al rfl 25 rfl zeroD (zeroD_run _) ?_; intro w5 hX5 hb5 hz5)
    | (refine wpList_str rfl 25 _ _ rfl w4.heap.size D rfl rfl _ zeroD hX5 hsD zeroD_size hoD ?_; intro w6 hX6 hg6 hy6))
  have hb6 := hb5.grown hg6 hb5.size (by intro g e; cases e; exact Nat.le_refl _)
  have hB6 := hB4.belowS hb6
  have hb06 := below_step hb04 hb6
  clear hB4 hX5 hb5 hz5 hg6 hy6 hb6 hb04
  (with_reducible refine (hR2.out w6).mono ?_); rintro e w7 ⟨rfl, hb7⟩
  have hB7 := hB6.belowS hb7
  have hX7 := hX6.belowS hb7
  have hb07 := below_step hb06 hb7
  clear hB6 hX6 hb7 hb06
  go_wp2_with (first
    | (refine wpList_al rfl 25 rfl zeroD (zeroD_run _) ?_; intro w8 hY8 hb8 hz8)
    | (refine wpList_str rfl 25 _ _ rfl w7.heap.size Y rfl rfl _ zeroD hY8 hsY zeroD_size hoY ?_; intro w9 hY9 hg9 hy9; have hb9 := hb8.grown hg9 hb8.size (by intro g e; cases e; exact Nat.le_refl _); have hB9 := hB7.belowS hb9; have hX9 := hX7.belowS hb9)
    | (refine wpList_ldr_g (by rfl) 25 _ rfl w4.heap.size rfl _ D _ hX9 Tryd.underlying25 rfl hzD ?_)
    | (refine wpList_ldr_g (by rfl) 25 _ rfl w.heap.size rfl _ D _ hB9 Tryd.underlying25 rfl hzD ?_)
    | (refine wpList_ldr_g (by rfl) 25 _ rfl w7.heap.size rfl _ Y _ hY9 Tryd.underlying25 rfl hzY ?_))
  (with_reducible refine (hH2.out w9).mono ?_); rintro e x1 ⟨rfl, hx1⟩
  go_wp2_with fail
  go_ret
  exact ⟨rfl, below_step hb07 (below_step hb9 hx1)⟩

set_option maxRecDepth 100000 in
set_option maxHeartbeats 4000000 in
theorem back_no (ds : List UInt8) (hl : ds.length = 32) (D : Array Value) (hD : D = (ds.map bv).toArray) (s : ByteArray) (w : World) (h : s.size ≤ 200) (hr : readOf s.data.toList = (List.replicate 32 0, 2)) (hK : KOk w) :
    Calls Tryd.prog 6 #[.agg D, .string s] w fun e w' => e = .returned (.bool true) ∧ Below w.heap.size w w' := by
  have hR1 := hid (fun W => read_any ⟨(hexOf ds).toArray⟩ W)
  have e1 : readOf ((⟨(hexOf ds).toArray⟩ : ByteArray).data.toList) = (ds, 0) := readOf_hex ds hl
  rw [e1] at hR1
  have hR2 := hid (fun W => read_any s W)
  rw [hr] at hR2
  unfold GivesDI at hR1 hR2
  have hH1 := hid (fun W => hex_any ds _ rfl hl W)
  have hys : (List.replicate 32 (0 : UInt8)).length = 32 := rfl
  have HE2 := run_eq_dig _ _ hys hys
  generalize (⟨(hexOf ds).toArray⟩ : ByteArray) = t at *
  have HE := run_eq_dig ds ds hl hl
  have hzD := digS ds hl
  have hzY := digS _ hys
  have hoD := oneBv' ds
  have hoY := oneBv' (List.replicate 32 0)
  have hsD : ((ds.map bv).toArray).size = zeroD.size := by simp [hl]; rfl
  rw [← hD] at *
  have hY : ((List.replicate 32 (0 : UInt8)).map bv).toArray = zeroD := rfl
  rw [hY] at hR2 hzY hoY HE2
  have HE3 : ∀ W : World, (Op.equalIn 10000 25 (.agg zeroD) (.agg #[.int .u8 0, .int .u8 0, .int .u8 0, .int .u8 0, .int .u8 0, .int .u8 0, .int .u8 0, .int .u8 0, .int .u8 0, .int .u8 0, .int .u8 0, .int .u8 0, .int .u8 0, .int .u8 0, .int .u8 0, .int .u8 0, .int .u8 0, .int .u8 0, .int .u8 0, .int .u8 0, .int .u8 0, .int .u8 0, .int .u8 0, .int .u8 0, .int .u8 0, .int .u8 0, .int .u8 0, .int .u8 0, .int .u8 0, .int .u8 0, .int .u8 0, .int .u8 0])).run Tryd.prog W = .ok true W := fun W => (HE2 W).trans (by simp)
  clear HE2
  clear hD e1 hr hys hl hY
  go_enter Tryd.func6, Tryd.ntmps6
  go_wp2_with (refine wpList_bx rfl 25 _ rfl D rfl ?_; intro w1 hB1 hb1 hz1)
  (with_reducible refine (alive_any w1 (hK.below hb1)).mono ?_); rintro e w2 ⟨rfl, hb2⟩
  have hB2 := hB1.belowS hb2
  have hb02 := below_step hb1 hb2
  clear hB1 hb1 hz1 hb2
  go_wp2_with (refine wpList_ldr rfl 25 _ rfl w.heap.size rfl _ D _ hB2 Tryd.underlying25 rfl hzD ?_)
  (with_reducible refine (hH1.out w2).mono ?_); rintro e w3 ⟨rfl, hb3⟩
  go_wp2_with fail
  (with_reducible refine (hR1.out w3).mono ?_); rintro e w4 ⟨rfl, hb4⟩
  have hb24 := below_step hb3 hb4
  have hB4 := hB2.belowS hb24
  have hb04 := below_step hb02 hb24
  clear hB2 hb3 hb4 hb24 hb02
  go_wp2_with (first
    | (refine wpList_al rfl 25 rfl zeroD (zeroD_run _) ?_; intro w5 hX5 hb5 hz5)
    | (refine wpList_str rfl 25 _ _ rfl w4.heap.size D rfl rfl _ zeroD hX5 hsD zeroD_size hoD ?_; intro w6 hX6 hg6 hy6))
  have hb6 := hb5.grown hg6 hb5.size (by intro g e; cases e; exact Nat.le_refl _)
  have hB6 := hB4.belowS hb6
  have hb06 := below_step hb04 hb6
  clear hB4 hX5 hb5 hz5 hg6 hy6 hb6 hb04
  (with_reducible refine (hR2.out w6).mono ?_); rintro e w7 ⟨rfl, hb7⟩
  have hB7 := hB6.belowS hb7
  have hX7 := hX6.belowS hb7
  have hb07 := below_step hb06 hb7
  clear hB6 hX6 hb7 hb06
  go_wp2_with (first
    | (refine wpList_al rfl 25 rfl zeroD (zeroD_run _) ?_; intro w8 hY8 hb8 hz8)
    | (refine wpList_str rfl 25 _ _ rfl w7.heap.size zeroD rfl rfl _ zeroD hY8 rfl zeroD_size hoY ?_; intro w9 hY9 hg9 hy9; have hb9 := hb8.grown hg9 hb8.size (by intro g e; cases e; exact Nat.le_refl _); have hB9 := hB7.belowS hb9; have hX9 := hX7.belowS hb9)
    | (refine wpList_ldr_g (by rfl) 25 _ rfl w4.heap.size rfl _ D _ hX9 Tryd.underlying25 rfl hzD ?_)
    | (refine wpList_ldr_g (by rfl) 25 _ rfl w.heap.size rfl _ D _ hB9 Tryd.underlying25 rfl hzD ?_)
    | (refine wpList_ldr_g (by rfl) 25 _ rfl w7.heap.size rfl _ zeroD _ hY9 Tryd.underlying25 rfl hzY ?_))
  go_ret
  exact ⟨rfl, below_step hb07 hb9⟩

namespace shaBack
theorem shaBack_law (ds : List UInt8) (hl : ds.length = 32) (s : ByteArray) {w : World} (hK : KOk w) :
    Calls Tryd.prog 6 #[.agg (ds.map bv).toArray, .string s] w fun e w' => e = .returned (.bool true) ∧ Below w.heap.size w w' := by
  by_cases h : 200 < s.size
  · exact back_long _ s w h hK
  · by_cases ho : okHex s.data.toList = true
    · have hr : readOf s.data.toList = (rdL s.data.toList 64, 0) := by
        unfold readOf
        rw [if_pos ho]
      exact back_yes ds hl _ rfl s w (by omega) _ (rdL_len _ _) hr (hexOf_rd _ ho) hK
    · have hr : readOf s.data.toList = (List.replicate 32 0, 2) := by
        unfold readOf
        rw [if_neg ho]
      exact back_no ds hl _ rfl s w (by omega) hr hK
end shaBack
end Go.Proofs.YtpmmgknehmkjlaaDoor
