/-
  Contracts of the law's fork, leaf, abc. The table k stands in its variable.
-/
import Derived.Test.YtheljogmnalbmaaDoorRowJ
import Derived.Lib.SlBytesConst
import Derived.Lib.ConvBytes
namespace Go.Proofs.YtheljogmnalbmaaDoor
open Go.RowKit
set_option linter.unusedSimpArgs false
set_option linter.unusedVariables false

/-- A string's bytes, a new row. -/
theorem bytesWorld_rd (w : World) (e : TypeId) (s : ByteArray) : Rd (Lib.bytesWorld w e s) 0 1 (some ⟨w.heap.size, 0, none⟩) s.size (s.data.toList.map bv) := by
  refine ⟨?_, fun _ => ⟨w.heap.size, 0, rfl, Nat.zero_le _, fun j hj => ?_⟩⟩
  · simp
  · have hj : j < s.size := by omega
    have hj2 : j < s.data.toList.length := by simpa using hj
    rw [Nat.zero_add, Lib.bytesWorld_cell w e s j hj, List.getElem?_map, List.getD_eq_getElem?_getD, List.getElem?_eq_getElem hj2]
    rfl
theorem bytesWorld_bel (w : World) (e : TypeId) (s : ByteArray) : Below w.heap.size w (Lib.bytesWorld w e s) := ⟨rfl, rfl, rfl, by rw [Lib.bytesWorld_size]; omega, fun k hk => Lib.bytesWorld_at_old w e s k hk⟩
theorem Rd.marked (w : World) (fr : Nat × Nat) (n : Nat) (cs : Array Value) (bs : List UInt8) (hl : bs.length = n) (e : (bs.map bv).toArray = cs) : Rd (w.alloc (.cells cs 5 fr)) 0 1 (some ⟨w.heap.size, 0, none⟩) n (bs.map bv) := by
  subst e
  refine ⟨by simp [hl], fun _ => ⟨w.heap.size, 0, rfl, Nat.zero_le _, fun j _ => ?_⟩⟩
  rw [Nat.zero_add, cell_of_row _ _ _ _ _ fr (heap_alloc_new w _)]
  simp
theorem conv_const (w W : World) (C : Array Value) (n c g : Nat) (hg : g = W.heap.size) : (convert 24 24 (.slice (some ⟨g, 0, none⟩) n c)).run Tryd.prog (W.alloc (.cells C 5)) = .ok (.slice (some ⟨g, 0, none⟩) n c) (W.alloc (.cells C 5 (C.size, C.size + 1))) := by
  subst hg
  exact Lib.run_convert_bytes_const (P := Tryd.prog) W 24 5 C n c Tryd.underlying24 Tryd.underlying5

set_option maxRecDepth 100000 in
set_option maxHeartbeats 4000000 in
theorem forkD_any (x y : List UInt8) (hx : x.length = 32) (hy : y.length = 32) (w : World) (hK : KOk w) :
    Calls Tryd.prog 13 #[.agg (x.map bv).toArray, .agg (y.map bv).toArray] w (GivesD w (digOf 8 [x, y])) := by
  have HK := hid hK
  have hxS := digS x hx
  have hyS := digS y hy
  have hO := hid (fun W A B (h1 : Rd W 0 1 A 32 (x.map bv)) (h2 : Rd W 0 1 B 32 (y.map bv)) (k : KOk W) => tagTwo_any A B 32 32 32 32 x y W h1 h2 (by omega) (by omega) k)
  have hd8 := digOf_len 8 [x, y]
  have h8z := digZ _ hd8
  have h8S := digS _ hd8
  have h8o := hid (oneBv' (digOf 8 [x, y]))
  unfold GivesD at hO
  unfold GivesD
  have hrx := hid (fun W g (h : Blk W g 23 (x.map bv).toArray) => (h.rdD hx : Rd W 0 1 (some ⟨g, 0, none⟩) 32 (x.map bv)))
  have hry := hid (fun W g (h : Blk W g 23 (y.map bv).toArray) => (h.rdD hy : Rd W 0 1 (some ⟨g, 0, none⟩) 32 (y.map bv)))
  generalize digOf 8 [x, y] = d8 at *
  clear hK
  go_enter Tryd.func13, Tryd.ntmps13
  go_wp2_with (first
    | (refine wpList_bx rfl 23 _ rfl (x.map bv).toArray rfl ?_; intro w1 hB1 hb1 hz; have hz1 := hid hz; clear hz)
    | (refine wpList_bx rfl 23 _ rfl (y.map bv).toArray rfl ?_; intro w2 hB2 hb2 hz; have hz2 := hid hz; clear hz)
    | (refine wpList_al rfl 23 rfl zeroD (zeroD_run _) ?_; intro w3 hB3 hb3 hz; have hz3 := hid hz; clear hz))
  have q13 := below_drew1 (below_chain hb2 hb3)
  have Y := hid (below_chain hb1 q13)
  have X3 := hid hB3.drew
  have R1 := hid (hrx.out _ _ (hB1.belowS q13))
  have R2 := hid (hry.out _ _ (hB2.belowS (below_drew1 hb3)))
  have hl3 := hid (show w.heap.size ≤ w2.heap.size by have := hz1.out; have := hz2.out; omega)
  clear hB1 hB2 hB3 hb1 hb2 hb3 q13 hrx hry
  obtain ⟨wr, hwr⟩ : ∃ wr, w3.drew = wr := ⟨_, rfl⟩
  rw [hwr] at Y X3 R1 R2
  refine wp_region_held_drew (S := (fun _ => True)) (by kernel_rfl) trivial (fun hHeld => ?_); rw [hwr]
  refine reg_take (v := ?_) 0 rfl (by kernel_rfl) (by kernel_rfl) (by kernel_rfl) (fun _ _ _ h => h) (Or.inl ⟨by rfl, ?_⟩) (by assumption) ?_; rotate_left; (intro w hSw; (try dsimp only at hSw); go_simp); (try with_reducible rfl); (try simp only [Act.put, List.setIfInBounds_toArray, List.set_cons_zero, List.set_cons_succ])
  refine reg_take (v := ?_) 1 rfl (by kernel_rfl) (by kernel_rfl) (by kernel_rfl) (fun _ _ _ h => h) (Or.inl ⟨by rfl, ?_⟩) (by assumption) ?_; rotate_left; (intro w hSw; (try dsimp only at hSw); go_simp); (try with_reducible rfl); (try simp only [Act.put, List.setIfInBounds_toArray, List.set_cons_zero, List.set_cons_succ])
  refine reg_only 2 rfl (by kernel_rfl) (fun K hK => ?_); go_simp; have hRa := hid (R1.out); have hba := below_alloc1 wr (.cells #[.slice (some ⟨w.heap.size, 0, none⟩) 32 32, .slice (some ⟨w1.heap.size, 0, none⟩) 32 32] 24); refine hK.out _ _ ?_ (fun hHeld => ?_); (trivial); clear hK K; (try simp only [Act.put, List.setIfInBounds_toArray, List.set_cons_zero, List.set_cons_succ])
  refine reg_only 3 rfl (by kernel_rfl) (fun K hK => ?_); go_simp; refine (hO.out wr _ _ R1.out R2.out (HK.out.below Y.out)).mono ?_; rintro e' w7 ⟨rfl, hb7'⟩; have hb7 := below_al hb7'; have X7 := hid (X3.out.belowS hb7); have Y := hid (below_chain Y.out hb7); refine hK.out _ _ ?_ (fun hHeld => ?_); (trivial); clear hK K; (try simp only [Act.put, List.setIfInBounds_toArray, List.set_cons_zero, List.set_cons_succ])
  refine reg_only 4 rfl (by kernel_rfl) (fun K hK => ?_); refine step_str rfl 23 _ _ rfl w2.heap.size _ rfl rfl _ _ X7.out h8z zeroD_size h8o.out ?_; intro w9 hB9 hg9 hy; clear hy; refine hK.out _ _ ?_ (fun hHeld => ?_); (trivial); clear hK K; (try simp only [Act.put, List.setIfInBounds_toArray, List.set_cons_zero, List.set_cons_succ])
  refine wpAnyH_done (by kernel_rfl) ?_ _
  have hbf := below_set Y.out hg9 hl3.out
  have hres := results_c (P := Tryd.prog) (fn := Tryd.f13) (p := 4) rfl
  go_wp2
  exact bodyPost_ret (hres _ _ w2.heap.size _ _ rfl hB9 Tryd.underlying23 rfl h8S) rfl ⟨rfl, hbf⟩

set_option maxRecDepth 100000 in
set_option maxHeartbeats 4000000 in
theorem leaf_any (s : ByteArray) (hs : s.size ≤ 5000) (w : World) (hK : KOk w) :
    Calls Tryd.prog 21 #[.string s] w (GivesD w (digOf 7 [s.data.toList])) := by
  have HK := hid hK
  have hO := hid (fun W A c (h1 : Rd W 0 1 A s.size (s.data.toList.map bv)) (k : KOk W) => tagOne_any A s.size c s.data.toList W h1 hs k)
  have hd7 := digOf_len 7 [s.data.toList]
  have h7z := digZ _ hd7
  have h7S := digS _ hd7
  have h7o := hid (oneBv' (digOf 7 [s.data.toList]))
  unfold GivesD at hO
  unfold GivesD
  generalize digOf 7 [s.data.toList] = d7 at *
  clear hK
  have kc := fun (w : World) (s : ByteArray) => Lib.run_convert_string_bytes (P := Tryd.prog) w 9 24 5 s Tryd.underlying9 Tryd.underlying24 Tryd.underlying5
  go_enter Tryd.func21, Tryd.ntmps21
  go_wp2_with (first
    | (refine wpList_al rfl 23 rfl zeroD (zeroD_run _) ?_; intro w1 hB1 hb1 hz; clear hz)
    | ((with_reducible refine (hO.out (Lib.bytesWorld w1 5 s) _ _ (bytesWorld_rd w1 5 s) (HK.out.below (below_chain hb1 (bytesWorld_bel w1 5 s)))).mono ?_); rintro e w3 ⟨rfl, hb3'⟩; have hb3 := below_al hb3'; have hb2 := bytesWorld_bel w1 5 s; have hY2 := hid (below_chain hb1 hb2))
    | (refine wpList_str rfl 23 _ _ rfl w.heap.size _ rfl rfl _ zeroD ((hB1.belowS hb2).belowS hb3) h7z zeroD_size h7o.out ?_; intro w4 hB4 hg4 hz; clear hz))
  have hbf := below_set (below_chain hY2.out hb3) hg4 (Nat.le_refl _)
  have hres := results_c (P := Tryd.prog) (fn := Tryd.f21) (p := 2) rfl
  exact bodyPost_ret (hres _ _ w.heap.size _ _ rfl hB4 Tryd.underlying23 rfl h7S) rfl ⟨rfl, hbf⟩

set_option maxRecDepth 100000 in
set_option maxHeartbeats 4000000 in
theorem abc_any (w : World) : Calls Tryd.prog 20 #[] w fun e w' => ∃ g, e = .returned (.slice (some ⟨g, 0, none⟩) 3 3) ∧ Parts w' (some ⟨g, 0, none⟩) 3 [[97], [98], [99]] ∧ Below w.heap.size w w' := by
  have k1 := conv_const w w #[.int .u8 97] 1 1 w.heap.size rfl
  have k2 := conv_const w (w.alloc (.cells #[.int .u8 97] 5 (1, 2))) #[.int .u8 98] 1 1 (w.heap.size + 1) (by simp)
  have k3 := conv_const w ((w.alloc (.cells #[.int .u8 97] 5 (1, 2))).alloc (.cells #[.int .u8 98] 5 (1, 2))) #[.int .u8 99] 1 1 (w.heap.size + 1 + 1) (by simp)
  go_enter Tryd.func20, Tryd.ntmps20
  go_wp2
  go_ret
  have r1 := Rd.marked w (1, 2) 1 #[.int .u8 97] [97] rfl rfl
  have b1 := below_alloc1 w (.cells #[.int .u8 97] 5 (1, 2))
  have s1 : (w.alloc (.cells #[.int .u8 97] 5 (1, 2))).heap.size = w.heap.size + 1 := by simp
  generalize w.alloc (.cells #[.int .u8 97] 5 (1, 2)) = w1 at *
  have r2 := Rd.marked w1 (1, 2) 1 #[.int .u8 98] [98] rfl rfl
  have b2 := below_alloc1 w1 (.cells #[.int .u8 98] 5 (1, 2))
  have s2 : (w1.alloc (.cells #[.int .u8 98] 5 (1, 2))).heap.size = w1.heap.size + 1 := by simp
  generalize w1.alloc (.cells #[.int .u8 98] 5 (1, 2)) = w2 at *
  have r3 := Rd.marked w2 (1, 2) 1 #[.int .u8 99] [99] rfl rfl
  have b3 := below_alloc1 w2 (.cells #[.int .u8 99] 5 (1, 2))
  have s3 : (w2.alloc (.cells #[.int .u8 99] 5 (1, 2))).heap.size = w2.heap.size + 1 := by simp
  generalize w2.alloc (.cells #[.int .u8 99] 5 (1, 2)) = w3 at *
  rw [s1] at s2 r2
  rw [s2] at s3 r3
  rw [← s3]
  refine ⟨w3.heap.size, rfl, ?_, below_chain (below_chain b1 (below_chain b2 b3)) (below_alloc1 _ _)⟩
  exact Parts.lit w3 24 [.slice _ 1 1, .slice _ 1 1, .slice _ 1 1] [[97], [98], [99]] rfl fun i hi => by
    match i, hi with
    | 0, _ => exact ⟨_, _, _, rfl, (r1.below b2).below b3⟩
    | 1, _ => exact ⟨_, _, _, rfl, r2.below b3⟩
    | 2, _ => exact ⟨_, _, _, rfl, r3⟩
end Go.Proofs.YtheljogmnalbmaaDoor
