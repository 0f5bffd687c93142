/-
  The walk of the law ShaTells: at any two slices of bytes it returns true and writes nothing that was there, the table k standing in its variable.
-/
import Derived.Test.YtpmmgknehmkjlaaDoorShaN
import Derived.Test.YtpmmgknehmkjlaaDoorDig
import Derived.Test.YtpmmgknehmkjlaaDoorIsRow
namespace Go.Proofs.YtpmmgknehmkjlaaDoor
open Go.RowKit

theorem Parts.lit (w : World) (e : TypeId) (vs : List Value) (pss : List (List UInt8)) (hl : pss.length = vs.length) (h : ∀ i, i < vs.length → ∃ A n c, vs[i]? = some (.slice A n c) ∧ Rd w 0 1 A n ((pss.getD i []).map bv)) :
    Parts (w.alloc (.cells vs.toArray e)) (some ⟨w.heap.size, 0, none⟩) vs.length pss :=
  ⟨hl, fun i hi => by
    obtain ⟨A, n, c, hv, hr⟩ := h i hi
    refine ⟨w.heap.size, 0, A, n, c, rfl, by simp, ?_, hr.alloc _⟩
    rw [Nat.zero_add, cell_of_row _ _ _ _ _ _ (heap_alloc_new w _), List.getElem?_toArray, hv]⟩
theorem OwnO.len {w : World} {lo n c : Nat} {A : Option Addr} {bs : List UInt8} (h : OwnO w lo A n c bs) : bs.length = n := h.1
theorem Parts.drew {w : World} {P : Option Addr} {np : Nat} {pss : List (List UInt8)} (h : Parts w P np pss) : Parts w.drew P np pss := h
theorem Parts.two (w : World) (e : TypeId) (A B : Option Addr) (n m c d : Nat) (xs ys : List UInt8) (h1 : Rd w 0 1 A n (xs.map bv)) (h2 : Rd w 0 1 B m (ys.map bv)) :
    Parts (w.alloc (.cells #[.slice A n c, .slice B m d] e)) (some ⟨w.heap.size, 0, none⟩) 2 [xs, ys] :=
  Parts.lit w e [.slice A n c, .slice B m d] [xs, ys] rfl fun i hi => by
    match i, hi with
    | 0, _ => exact ⟨A, n, c, rfl, h1⟩
    | 1, _ => exact ⟨B, m, d, rfl, h2⟩
theorem sameB_any (A B : Option Addr) (n m c d lo lo2 : Nat) (xs ys : List UInt8) (w : World) (ha : Rd w lo 1 A n (xs.map bv)) (hb : Rd w lo2 1 B m (ys.map bv)) :
    Calls Tryd.prog 11 #[.slice A n c, .slice B m d] w fun e w' => e = .returned (.bool (xs == ys)) ∧ w = w' := by
  have h1 := run_bytes_string (P := Tryd.prog) w 22 5 9 Tryd.underlying22 Tryd.underlying5 Tryd.underlying9 A n c lo xs ha
  have h2 := run_bytes_string (P := Tryd.prog) w 22 5 9 Tryd.underlying22 Tryd.underlying5 Tryd.underlying9 B m d lo2 ys hb
  go_enter Tryd.func11, Tryd.ntmps11
  go_wp2
  go_ret
  exact ⟨rfl, rfl⟩
theorem sameB_yes {A B : Option Addr} {n m : Nat} (c d : Nat) {lo lo2 : Nat} {xs : List UInt8} {w : World} (ha : Rd w lo 1 A n (xs.map bv)) (hb : Rd w lo2 1 B m (xs.map bv)) :
    Calls Tryd.prog 11 #[.slice A n c, .slice B m d] w fun e w' => e = .returned (.bool true) ∧ w = w' :=
  (sameB_any A B n m c d lo lo2 xs xs w ha hb).mono fun e w' ⟨he, hw⟩ => ⟨by rw [he]; simp, hw⟩
theorem below_al {w w' : World} {o : Obj} (h : Below (w.alloc o).heap.size (w.alloc o) w') : Below w.heap.size w w' :=
  ((Below.refl w.heap.size w).alloc (Nat.le_refl _) o).trans (h.mono (by simp))
theorem below_step {w0 w1 w2 : World} (h : Below w0.heap.size w0 w1) (k : Below w1.heap.size w1 w2) : Below w0.heap.size w0 w2 := h.trans (k.mono h.size)
theorem zeroD_size : (Tryd.prog.info? 25).map (·.size) = some zeroD.size := by kernel_rfl
theorem digS (l : List UInt8) (h : l.length = 32) : (Tryd.prog.info? 25).map (·.size) = some ((l.map bv).toArray).size := by
  rw [show ((l.map bv).toArray).size = 32 by simpa using h]
  kernel_rfl
theorem oneBv' (l : List UInt8) : ∀ v ∈ (l.map bv).toArray, v.oneCell' = true := fun v hv => bv_one _ v (by simpa using hv)

set_option maxHeartbeats 1000000 in
theorem tells_big (A B : Option Addr) (n m c d : Nat) (w : World) (h : 700 < n ∨ 700 < m) :
    Calls Tryd.prog 3 #[.slice A n c, .slice B m d] w fun e w' => e = .returned (.bool true) ∧ w = w' := by
  by_cases h1 : 700 < n
  · go_enter Tryd.func3, Tryd.ntmps3
    go_wp2
    go_ret
    exact ⟨rfl, rfl⟩
  · have h2 : 700 < m := by omega
    go_enter Tryd.func3, Tryd.ntmps3
    go_wp2
    go_ret
    exact ⟨rfl, rfl⟩

set_option maxRecDepth 100000 in
set_option maxHeartbeats 2000000 in
theorem tells_small (A B : Option Addr) (n m c d : Nat) (xs ys : List UInt8) (w : World) (hn : n ≤ 700) (hm : m ≤ 700) (ha : Rd w 0 1 A n (xs.map bv)) (hb : Rd w 0 1 B m (ys.map bv)) (hK : KOk w) :
    Calls Tryd.prog 3 #[.slice A n c, .slice B m d] w fun e w' => e = .returned (.bool true) ∧ Below w.heap.size w w' := by
  have hxl : xs.length = n := by simpa using ha.1
  have hyl : ys.length = m := by simpa using hb.1
  have hfl : ([xs, ys] : List (List UInt8)).flatten = xs ++ ys := by simp
  have hll : (xs ++ ys).length = n + m := by simp [hxl, hyl]
  have HO := fun W P (h : Parts W P 2 [xs, ys]) (k : KOk W) => of_any P 2 2 [xs, ys] (xs ++ ys) hfl (n + m) hll W h (by omega) (by omega) k
  have HJ := fun W P (h : Parts W P 2 [xs, ys]) => joined_any P 2 2 [xs, ys] (xs ++ ys) hfl W h (by omega) (by omega)
  have HS := fun W D k e (h : Rd W 0 1 D k ((xs ++ ys).map bv)) (hk : k ≤ 100000) => sum_any D k e 0 (xs ++ ys) W h hk
  have hdl := shaOf_len (xs ++ ys)
  have HE := run_eq_dig _ _ hdl hdl
  have hzC := digS _ hdl
  have hone := oneBv' (shaOf (xs ++ ys))
  have hsz : ((shaOf (xs ++ ys)).map bv).toArray.size = zeroD.size := by simp [hdl]; rfl
  have HOi := hid HO
  have HJi := hid HJ
  have HSi := hid HS
  generalize hC : ((shaOf (xs ++ ys)).map bv).toArray = C at *
  have HLL := hid hll
  clear HO HJ HS hfl hll hxl hyl hdl hC
  go_enter Tryd.func3, Tryd.ntmps3
  go_wp2_with fail
  (with_reducible refine (twin_any A n c 0 xs w ha (by omega)).mono ?_); rintro e w1 ⟨D1, n1, c1, rfl, hO1, hb1⟩
  have hb1' := hb.below hb1
  go_wp2_with fail
  (with_reducible refine (twin_any B m d 0 ys w1 hb1' (by omega)).mono ?_); rintro e w2 ⟨D2, m1, d1, rfl, hO2, hb2⟩
  have hbw := below_step hb1 hb2
  have hK2 := hK.below hbw
  have r1 : Rd w2 0 1 D1 n1 (xs.map bv) := ((hO1.below hb2).rd).low (Nat.zero_le _)
  have r2 : Rd w2 0 1 D2 m1 (ys.map bv) := hO2.rd.low (Nat.zero_le _)
  have ra := ha.below hbw
  have rb := hb.below hbw
  clear hO1 hO2 hb1' hb2 ha hb
  go_wp2_with fail
  have hba := below_alloc1 w2 (.cells #[.slice D1 n1 c1, .slice D2 m1 d1] 22)
  (with_reducible refine (HOi.out _ _ (Parts.two w2 _ D1 D2 n1 m1 c1 d1 xs ys r1 r2) (hK2.below hba)).mono ?_); rintro e w3 ⟨rfl, hb3'⟩
  have hb3 := below_al hb3'
  go_wp2_with (first
    | (refine wpList_al rfl 25 rfl zeroD (zeroD_run _) ?_; intro w4 hD4 hb4 hz4)
    | (refine wpList_str rfl 25 _ _ rfl w3.heap.size C rfl rfl _ zeroD hD4 hsz zeroD_size hone ?_; intro w5 hD5 hg5 hz5))
  have hb5 := hb4.grown hg5 hb4.size (by intro g e; cases e; exact Nat.le_refl _)
  have hb25 := below_step hb3 hb5
  have q1 := r1.below hb25
  have q2 := r2.below hb25
  have qa := ra.below hb25
  have qb := rb.below hb25
  have hb05 := below_step hbw hb25
  clear hz4 hz5
  clear r1 r2 ra rb hb3' hb3 hb4 hD4 hg5 hb25 hbw hK2 hba
  have rA := hD5.range
  have hlC : C.toList.length = 32 := by rw [Array.length_toList, hsz]; rfl
  have hzCl : (Tryd.prog.info? 25).map (·.size) = some C.toList.length := by simpa using hzC
  have hoCl : ∀ v ∈ C.toList, v.oneCell' = true := by simpa using hone
  have hu := Tryd.underlying25
  refine wp_region_held_drew (S := fun w' => w'.rangeAt w3.heap.size 0 C.toList) (by kernel_rfl) rA (fun hHeld => ?_)
  refine reg_take 0 rfl (by kernel_rfl) (by kernel_rfl) (by kernel_rfl) (fun _ _ _ h => h) (yieldsIf_load_mid (by rfl) _ _ rfl _ _ rfl _ _ (by intro w hSw; (try dsimp only at hSw); go_split_ands; assumption) (by assumption) (by rfl) (by assumption)) (by assumption) ?_; (try simp only [Act.put, List.setIfInBounds_toArray, List.set_cons_zero, List.set_cons_succ])
  refine reg_take (v := ?_) 1 rfl (by kernel_rfl) (by kernel_rfl) (by kernel_rfl) (fun _ _ _ h => h) (Or.inl ⟨by rfl, ?_⟩) (by assumption) ?_; rotate_left; (intro w hSw; (try dsimp only at hSw); go_simp); (try with_reducible rfl); (try simp only [Act.put, List.setIfInBounds_toArray, List.set_cons_zero, List.set_cons_succ])
  refine reg_take (v := ?_) 2 rfl (by kernel_rfl) (by kernel_rfl) (by kernel_rfl) (fun _ _ _ h => h) (Or.inl ⟨by rfl, ?_⟩) (by assumption) ?_; rotate_left; (intro w hSw; (try dsimp only at hSw); go_simp); (try with_reducible rfl); (try simp only [Act.put, List.setIfInBounds_toArray, List.set_cons_zero, List.set_cons_succ])
  refine reg_only 3 rfl (by kernel_rfl) (fun K hK => ?_); go_simp; refine hK.out _ _ ?_ (fun hHeld => ?_); (exact range_below hHeld (below_alloc1 _ _)); clear hK K; (try simp only [Act.put, List.setIfInBounds_toArray, List.set_cons_zero, List.set_cons_succ])
  refine reg_only 4 rfl (by kernel_rfl) (fun K hK => ?_); go_simp; (with_reducible refine (HJi.out _ _ (Parts.two w5 _ A B n m c d xs ys qa qb).drew).mono ?_); rintro e wj ⟨DJ, nJ, cJ, rfl, hOJ, hbJ⟩; refine hK.out _ _ ?_ (fun hHeld => ?_); (exact range_below hHeld hbJ); clear hK K; (try simp only [Act.put, List.setIfInBounds_toArray, List.set_cons_zero, List.set_cons_succ])
  refine reg_only 5 rfl (by kernel_rfl) (fun K hK => ?_); go_simp; (with_reducible refine (HSi.out _ _ _ _ (hOJ.rd.low (Nat.zero_le _)) (by have h1 := hOJ.len; rw [HLL.out] at h1; omega)).mono ?_); rintro e ws ⟨rfl, hbS⟩; refine hK.out _ _ ?_ (fun hHeld => ?_); (exact range_below hHeld hbS); clear hK K; (try simp only [Act.put, List.setIfInBounds_toArray, List.set_cons_zero, List.set_cons_succ])
  have hbj : Below w5.heap.size w5 wj := below_al (w := w5) (o := .cells #[.slice A n c, .slice B m d] 22) ⟨hbJ.os, hbJ.tape, hbJ.output, hbJ.size, hbJ.block⟩
  have hbsw := below_step hbj hbS
  have q1z := q1.below hbsw
  have q2z := q2.below hbsw
  have qaz := qa.below hbsw
  have qbz := qb.below hbsw
  have hfin := below_step hb05 hbsw
  clear q1 q2 qa qb
  refine reg_take (v := ?_) 6 rfl (by kernel_rfl) (by kernel_rfl) (by kernel_rfl) (fun _ _ _ h => h) (Or.inl ⟨by rfl, ?_⟩) (by assumption) ?_; rotate_left; (intro w hSw; (try dsimp only at hSw); go_simp); (try with_reducible rfl); (try simp only [Act.put, List.setIfInBounds_toArray, List.set_cons_zero, List.set_cons_succ])
  refine reg_take (v := ?_) 7 rfl (by kernel_rfl) (by kernel_rfl) (by kernel_rfl) (fun _ _ _ h => h) (Or.inl ⟨by rfl, ?_⟩) (by assumption) ?_; rotate_left; (intro w hSw; (try dsimp only at hSw); go_simp); (try with_reducible rfl); (try simp only [Act.put, List.setIfInBounds_toArray, List.set_cons_zero, List.set_cons_succ])
  refine reg_take (v := ?_) 8 rfl (by kernel_rfl) (by kernel_rfl) (by kernel_rfl) (fun _ _ _ h => h) (Or.inl ⟨by rfl, ?_⟩) (by assumption) ?_; rotate_left; (intro w hSw; (try dsimp only at hSw); go_simp); (try with_reducible rfl); (try simp only [Act.put, List.setIfInBounds_toArray, List.set_cons_zero, List.set_cons_succ])
  refine reg_take (v := ?_) 9 rfl (by kernel_rfl) (by kernel_rfl) (by kernel_rfl) (fun _ _ _ h => h) (Or.inl ⟨by rfl, ?_⟩) (by assumption) ?_; rotate_left; (intro w hSw; (try dsimp only at hSw); go_simp); (try with_reducible rfl); (try simp only [Act.put, List.setIfInBounds_toArray, List.set_cons_zero, List.set_cons_succ])
  refine reg_only 10 rfl (by kernel_rfl) (fun K hK => ?_); go_simp; (with_reducible refine (sameB_yes c1 c q1z qaz).mono ?_); rintro e wt ⟨rfl, rfl⟩; refine hK.out _ _ ?_ (fun hHeld => ?_); (exact hHeld); clear hK K; (try simp only [Act.put, List.setIfInBounds_toArray, List.set_cons_zero, List.set_cons_succ])
  refine reg_take (v := ?_) 11 rfl (by kernel_rfl) (by kernel_rfl) (by kernel_rfl) (fun _ _ _ h => h) (Or.inl ⟨by rfl, ?_⟩) (by assumption) ?_; rotate_left; (intro w hSw; (try dsimp only at hSw); go_simp); (try with_reducible rfl); (try simp only [Act.put, List.setIfInBounds_toArray, List.set_cons_zero, List.set_cons_succ])
  refine reg_take (v := ?_) 12 rfl (by kernel_rfl) (by kernel_rfl) (by kernel_rfl) (fun _ _ _ h => h) (Or.inl ⟨by rfl, ?_⟩) (by assumption) ?_; rotate_left; (intro w hSw; (try dsimp only at hSw); go_simp); (try with_reducible rfl); (try simp only [Act.put, List.setIfInBounds_toArray, List.set_cons_zero, List.set_cons_succ])
  refine reg_take (v := ?_) 13 rfl (by kernel_rfl) (by kernel_rfl) (by kernel_rfl) (fun _ _ _ h => h) (Or.inl ⟨by rfl, ?_⟩) (by assumption) ?_; rotate_left; (intro w hSw; (try dsimp only at hSw); go_simp); (try with_reducible rfl); (try simp only [Act.put, List.setIfInBounds_toArray, List.set_cons_zero, List.set_cons_succ])
  refine reg_take (v := ?_) 14 rfl (by kernel_rfl) (by kernel_rfl) (by kernel_rfl) (fun _ _ _ h => h) (Or.inl ⟨by rfl, ?_⟩) (by assumption) ?_; rotate_left; (intro w hSw; (try dsimp only at hSw); go_simp); (try with_reducible rfl); (try simp only [Act.put, List.setIfInBounds_toArray, List.set_cons_zero, List.set_cons_succ])
  refine reg_only 15 rfl (by kernel_rfl) (fun K hK => ?_); go_simp; (with_reducible refine (sameB_yes d1 d q2z qbz).mono ?_); rintro e wt ⟨rfl, rfl⟩; refine hK.out _ _ ?_ (fun hHeld => ?_); (exact hHeld); clear hK K; (try simp only [Act.put, List.setIfInBounds_toArray, List.set_cons_zero, List.set_cons_succ])
  refine reg_take (v := ?_) 16 rfl (by kernel_rfl) (by kernel_rfl) (by kernel_rfl) (fun _ _ _ h => h) (Or.inl ⟨by rfl, ?_⟩) (by assumption) ?_; rotate_left; (intro w hSw; (try dsimp only at hSw); go_simp); (try with_reducible rfl); (try simp only [Act.put, List.setIfInBounds_toArray, List.set_cons_zero, List.set_cons_succ])
  refine reg_take (v := ?_) 17 rfl (by kernel_rfl) (by kernel_rfl) (by kernel_rfl) (fun _ _ _ h => h) (Or.inl ⟨by rfl, ?_⟩) (by assumption) ?_; rotate_left; (intro w hSw; (try dsimp only at hSw); go_simp); (try with_reducible rfl); (try simp only [Act.put, List.setIfInBounds_toArray, List.set_cons_zero, List.set_cons_succ])
  refine wpAnyH_done (by kernel_rfl) ?_ _
  go_wp2_with fail
  go_ret
  exact ⟨rfl, hfin⟩
namespace shaTells
theorem shaTells_law (A : Option Addr) (n c : Nat) (zs : List Int) {w : World} (ha : IsRow .u8 w A n c zs) (B : Option Addr) (m d : Nat) (ys : List Int) (hb : IsRow .u8 w B m d ys) (hK : KOk w) :
    Calls Tryd.prog 3 #[.slice A n c, .slice B m d] w fun e w' => e = .returned (.bool true) ∧ Below w.heap.size w w' := by
  obtain ⟨_, xs, hx⟩ := isRow_rd ha
  obtain ⟨_, vs, hv⟩ := isRow_rd hb
  by_cases h : 700 < n ∨ 700 < m
  · exact (tells_big A B n m c d w h).mono fun e w' ⟨he, hw⟩ => ⟨he, hw ▸ Below.refl _ _⟩
  · exact tells_small A B n m c d xs vs w (by omega) (by omega) hx hv hK
end shaTells
end Go.Proofs.YtpmmgknehmkjlaaDoor
