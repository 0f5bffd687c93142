/-
  The walk of the law ShaReads: at every digest and every text it returns true and writes nothing that was there.
-/
import Derived.Test.YtpmmgknehmkjlaaShaE
import Derived.Test.YtpmmgknehmkjlaaDig
import Derived.Test.YtpmmgknehmkjlaaReg
namespace Go.Proofs.Ytpmmgknehmkjlaa
open Go.RowKit

theorem readOf_len (l : List UInt8) : (readOf l).1.length = 32 := by
  unfold readOf
  split
  · exact rdL_len _ _
  · simp
theorem read_any (s : ByteArray) (w : World) : Calls Try.prog 4 #[.string s] w (GivesDI w (readOf s.data.toList).1 (readOf s.data.toList).2) := by
  by_cases h : s.size = 64
  · exact read_64 s w h
  · have : readOf s.data.toList = (List.replicate 32 0, 2) := by
      unfold readOf okHex
      have : (s.data.toList.length == 64) = false := by
        rw [beq_eq_false_iff_ne]
        simpa using h
      rw [this]
      rfl
    rw [this]
    exact read_long s w h
theorem refRead_any (s : ByteArray) (w : World) : Calls Try.prog 5 #[.string s] w (GivesDI w (readOf s.data.toList).1 (readOf s.data.toList).2) := by
  by_cases h : s.size = 64
  · exact refRead_64 s w h
  · have : readOf s.data.toList = (List.replicate 32 0, 2) := by
      unfold readOf okHex
      have : (s.data.toList.length == 64) = false := by
        rw [beq_eq_false_iff_ne]
        simpa using h
      rw [this]
      rfl
    rw [this]
    exact refRead_long s w h

set_option maxHeartbeats 2000000 in
theorem reads_walk (ds : List UInt8) (hl : ds.length = 32) (D : Array Value) (hD : D = (ds.map bv).toArray) (s : ByteArray) (w : World) :
    Calls Try.prog 3 #[.agg D, .string s] w fun e w' => e = .returned (.bool true) ∧ Below w.heap.size w w' := by
  have hR1 := hid (read_any s)
  have hR2 := hid (refRead_any s)
  have hH1 := hid (hex_any ds D hD hl)
  have hH2 := hid (refHex_any ds D hD hl)
  unfold GivesDI at hR1 hR2
  have hxl := readOf_len s.data.toList
  generalize (readOf s.data.toList).1 = xs at *
  generalize (readOf s.data.toList).2 = n at *
  have HE := run_eq_dig xs xs hxl hxl
  have hzx := dig_size (xs.map bv).toArray (by simpa using hxl)
  have hone := oneBv xs
  have hz32 := dig_size zero32 (by decide)
  have hzD : D.size = 32 := by rw [hD]; simpa using hl
  have hoD : ∀ v ∈ D, v.oneCell' = true := by rw [hD]; exact oneBv ds
  by_cases hs : 200 < s.size
  · go_enter Try.func3, Try.ntmps3
    go_wp2_with (refine wpList_bx rfl 23 _ rfl D rfl ?_; intro w1 hB1 hb1 hz1)
    go_ret
    exact ⟨rfl, hb1⟩
  · generalize hX : (xs.map bv).toArray = X at *
    have hXs : X.size = 32 := by rw [← hX]; simpa using hxl
    clear hX hD
    have hsz : s.size ≤ 200 := by omega
    go_enter Try.func3, Try.ntmps3
    go_wp2_with (first
      | (refine wpList_bx rfl 23 _ rfl D rfl ?_; intro w1 hB1 hb1 hz1))
    (with_reducible refine (hR1.out w1).mono ?_); rintro e w2 ⟨rfl, hb2⟩
    have hA2 := hB1.belowS hb2
    go_wp2_with (first
      | (refine wpList_al rfl 23 rfl zero32 (zero32_run _) ?_; intro w3 hB3 hb3 hz3)
      | (refine wpList_str rfl 23 _ _ rfl w2.heap.size X rfl rfl _ zero32 hB3 (by rw [hXs]; rfl) hz32 hone ?_; intro w4 hB4 hg4 hz4))
    have hb4 := hb3.grown hg4 hb3.size (by simp)
    have hA4 := hA2.belowS hb4
    clear hg4 hB3
    (with_reducible refine (hR2.out w4).mono ?_); rintro e w5 ⟨rfl, hb5⟩
    have hA5 := hA4.belowS hb5
    have hB5 := hB4.belowS hb5
    go_wp2_with (first
      | (refine wpList_al rfl 23 rfl zero32 (zero32_run _) ?_; intro w6 hC6 hb6 hz6)
      | (refine wpList_str rfl 23 _ _ rfl w5.heap.size X rfl rfl _ zero32 hC6 (by rw [hXs]; rfl) hz32 hone ?_; intro w7 hC7 hg7 hz7))
    have hb7 := hb6.grown hg7 hb6.size (by simp)
    have hA7 := hA5.belowS hb7
    have hB7 := hB5.belowS hb7
    have hb17 := hb2.trans ((hb4.trans ((hb5.trans (hb7.mono hb5.size)).mono hb4.size)).mono hb2.size)
    have hb07 := hb1.trans (hb17.mono hb1.size)
    clear hg7 hC6
    have rA := hA7.range
    have rB := hB7.range
    have rC := hC7.range
    have hzDl : (Try.prog.info? 23).map (·.size) = some D.toList.length := by simpa using dig_size D hzD
    have hzXl : (Try.prog.info? 23).map (·.size) = some X.toList.length := by simpa using hzx
    have hlD : D.toList.length = 32 := by simpa using hzD
    have hlX : X.toList.length = 32 := by simpa using hXs
    have hoDl : ∀ v ∈ D.toList, v.oneCell' = true := by simpa using hoD
    have hoXl : ∀ v ∈ X.toList, v.oneCell' = true := by simpa using hone
    have hu := Try.underlying23
    refine wp_region_held_drew (S := fun w' => w'.rangeAt w.heap.size 0 D.toList ∧ w'.rangeAt w2.heap.size 0 X.toList ∧ w'.rangeAt w5.heap.size 0 X.toList) (by kernel_rfl) ⟨rA, rB, rC⟩ (fun hHeld => ?_)
    refine reg_take 0 rfl (by kernel_rfl) (by kernel_rfl) (by kernel_rfl) (fun _ _ _ h => h) (yieldsIf_load_mid (by rfl) _ _ rfl _ _ rfl _ _ (by intro w hSw; (try dsimp only at hSw); go_split_ands; assumption) (by assumption) (by rfl) (by assumption)) (by assumption) ?_; (try simp only [Act.put, List.setIfInBounds_toArray, List.set_cons_zero, List.set_cons_succ])
    refine reg_take 2 rfl (by kernel_rfl) (by kernel_rfl) (by kernel_rfl) (fun _ _ _ h => h) (yieldsIf_load_mid (by rfl) _ _ rfl _ _ rfl _ _ (by intro w hSw; (try dsimp only at hSw); go_split_ands; assumption) (by assumption) (by rfl) (by assumption)) (by assumption) ?_; (try simp only [Act.put, List.setIfInBounds_toArray, List.set_cons_zero, List.set_cons_succ])
    refine reg_only 1 rfl (by kernel_rfl) (fun K hK => ?_); go_simp; (with_reducible refine (hH1.out _).mono ?_); rintro e wa ⟨rfl, hba⟩; refine hK.out _ _ ?_ (fun hHeld => ?_); (exact ⟨range_below hHeld.1 hba, range_below hHeld.2.1 hba, range_below hHeld.2.2 hba⟩); clear hK K; (try simp only [Act.put, List.setIfInBounds_toArray, List.set_cons_zero, List.set_cons_succ])
    refine reg_only 3 rfl (by kernel_rfl) (fun K hK => ?_); go_simp; (with_reducible refine (hH2.out _).mono ?_); rintro e wb ⟨rfl, hbb⟩; refine hK.out _ _ ?_ (fun hHeld => ?_); (exact ⟨range_below hHeld.1 hbb, range_below hHeld.2.1 hbb, range_below hHeld.2.2 hbb⟩); clear hK K; (try simp only [Act.put, List.setIfInBounds_toArray, List.set_cons_zero, List.set_cons_succ])
    refine reg_take (v := ?_) 4 rfl (by kernel_rfl) (by kernel_rfl) (by kernel_rfl) (fun _ _ _ h => h) (Or.inl ⟨by rfl, ?_⟩) (by assumption) ?_; rotate_left; (intro w hSw; (try dsimp only at hSw); go_simp); (try with_reducible rfl); (try simp only [Act.put, List.setIfInBounds_toArray, List.set_cons_zero, List.set_cons_succ])
    refine reg_take (v := ?_) 5 rfl (by kernel_rfl) (by kernel_rfl) (by kernel_rfl) (fun _ _ _ h => h) (Or.inl ⟨by rfl, ?_⟩) (by assumption) ?_; rotate_left; (intro w hSw; (try dsimp only at hSw); go_simp); (try with_reducible rfl); (try simp only [Act.put, List.setIfInBounds_toArray, List.set_cons_zero, List.set_cons_succ])
    refine reg_take 6 rfl (by kernel_rfl) (by kernel_rfl) (by kernel_rfl) (fun _ _ _ h => h) (yieldsIf_load_mid (by rfl) _ _ rfl _ _ rfl _ _ (by intro w hSw; (try dsimp only at hSw); go_split_ands; assumption) (by assumption) (by rfl) (by assumption)) (by assumption) ?_; (try simp only [Act.put, List.setIfInBounds_toArray, List.set_cons_zero, List.set_cons_succ])
    refine reg_take 7 rfl (by kernel_rfl) (by kernel_rfl) (by kernel_rfl) (fun _ _ _ h => h) (yieldsIf_load_mid (by rfl) _ _ rfl _ _ rfl _ _ (by intro w hSw; (try dsimp only at hSw); go_split_ands; assumption) (by assumption) (by rfl) (by assumption)) (by assumption) ?_; (try simp only [Act.put, List.setIfInBounds_toArray, List.set_cons_zero, List.set_cons_succ])
    refine reg_take (v := ?_) 8 rfl (by kernel_rfl) (by kernel_rfl) (by kernel_rfl) (fun _ _ _ h => h) (Or.inl ⟨by rfl, ?_⟩) (by assumption) ?_; rotate_left; (intro w hSw; (try dsimp only at hSw); go_simp); (try with_reducible rfl); (try simp only [Act.put, List.setIfInBounds_toArray, List.set_cons_zero, List.set_cons_succ])
    refine reg_take (v := ?_) 9 rfl (by kernel_rfl) (by kernel_rfl) (by kernel_rfl) (fun _ _ _ h => h) (Or.inl ⟨by rfl, ?_⟩) (by assumption) ?_; rotate_left; (intro w hSw; (try dsimp only at hSw); go_simp); (try with_reducible rfl); (try simp only [Act.put, List.setIfInBounds_toArray, List.set_cons_zero, List.set_cons_succ])
    refine reg_take (v := ?_) 10 rfl (by kernel_rfl) (by kernel_rfl) (by kernel_rfl) (fun _ _ _ h => h) (Or.inl ⟨by rfl, ?_⟩) (by assumption) ?_; rotate_left; (intro w hSw; (try dsimp only at hSw); go_simp); (try with_reducible rfl); (try simp only [Act.put, List.setIfInBounds_toArray, List.set_cons_zero, List.set_cons_succ])
    refine reg_take (v := ?_) 11 rfl (by kernel_rfl) (by kernel_rfl) (by kernel_rfl) (fun _ _ _ h => h) (Or.inl ⟨by rfl, ?_⟩) (by assumption) ?_; rotate_left; (intro w hSw; (try dsimp only at hSw); go_simp); (try with_reducible rfl); (try simp only [Act.put, List.setIfInBounds_toArray, List.set_cons_zero, List.set_cons_succ])
    refine reg_take (v := ?_) 12 rfl (by kernel_rfl) (by kernel_rfl) (by kernel_rfl) (fun _ _ _ h => h) (Or.inl ⟨by rfl, ?_⟩) (by assumption) ?_; rotate_left; (intro w hSw; (try dsimp only at hSw); go_simp); (try with_reducible rfl); (try simp only [Act.put, List.setIfInBounds_toArray, List.set_cons_zero, List.set_cons_succ])
    refine reg_take (v := ?_) 13 rfl (by kernel_rfl) (by kernel_rfl) (by kernel_rfl) (fun _ _ _ h => h) (Or.inl ⟨by rfl, ?_⟩) (by assumption) ?_; rotate_left; (intro w hSw; (try dsimp only at hSw); go_simp); (try with_reducible rfl); (try simp only [Act.put, List.setIfInBounds_toArray, List.set_cons_zero, List.set_cons_succ])
    refine reg_take (v := ?_) 14 rfl (by kernel_rfl) (by kernel_rfl) (by kernel_rfl) (fun _ _ _ h => h) (Or.inl ⟨by rfl, ?_⟩) (by assumption) ?_; rotate_left; (intro w hSw; (try dsimp only at hSw); go_simp); (try with_reducible rfl); (try simp only [Act.put, List.setIfInBounds_toArray, List.set_cons_zero, List.set_cons_succ])
    refine reg_take (v := ?_) 15 rfl (by kernel_rfl) (by kernel_rfl) (by kernel_rfl) (fun _ _ _ h => h) (Or.inl ⟨by rfl, ?_⟩) (by assumption) ?_; rotate_left; (intro w hSw; (try dsimp only at hSw); go_simp); (try with_reducible rfl); (try simp only [Act.put, List.setIfInBounds_toArray, List.set_cons_zero, List.set_cons_succ])
    refine wpAnyH_done (by kernel_rfl) ?_ _
    have hbaw : Below w7.heap.size w7 wa := ⟨hba.os, hba.tape, hba.output, hba.size, hba.block⟩
    have hbbw := hbaw.trans (hbb.mono hbaw.size)
    have hb := hb07.trans (hbbw.mono hb07.size)
    go_wp2_with fail
    go_ret
    exact ⟨rfl, hb⟩
namespace shaReads
theorem shaReads_law (ds : List UInt8) (hl : ds.length = 32) (s : ByteArray) {w : World} :
    Calls Try.prog 3 #[.agg (ds.map bv).toArray, .string s] w fun e w' => e = .returned (.bool true) ∧ Below w.heap.size w w' :=
  reads_walk ds hl _ rfl s w
end shaReads
end Go.Proofs.Ytpmmgknehmkjlaa
