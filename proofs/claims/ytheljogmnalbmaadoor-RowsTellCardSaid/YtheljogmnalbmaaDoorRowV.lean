/-
  Contracts of the reference's Beside and Sides: they are rows.Sides' answers. No condition.
-/
import Derived.Test.YtheljogmnalbmaaDoorRowU
namespace Go.Proofs.YtheljogmnalbmaaDoor
open Go.RowKit
set_option linter.unusedSimpArgs false
set_option linter.unusedVariables false

/-- One result: digests in new memory. -/
def GivesBe (w : World) (L : List (List UInt8)) (e : Ending) (w' : World) : Prop := ∃ D c, e = .returned (.slice D L.length c) ∧ Go.Proofs.YtheljogmnalbmaaDoor.Own w' w.heap.size 23 32 D L.length c (dsL L) ∧ Below w.heap.size w w'

set_option maxRecDepth 100000 in
set_option maxHeartbeats 4000000 in
theorem beside_one (P : Option Addr) (pc i : Nat) (w : World) : Calls Tryd.prog 32 #[.slice P 1 pc, .int .i64 i] w (GivesBe w []) := by
  go_enter Tryd.func32, Tryd.ntmps32
  go_wp2_with fail
  go_ret
  exact ⟨_, _, rfl, Go.Proofs.YtheljogmnalbmaaDoor.Own.nil _ _ _ _ _, Below.refl _ _⟩

set_option maxRecDepth 100000 in
set_option maxHeartbeats 8000000 in
theorem beside_lt (b o np pc f i : Nat) (L : List (List UInt8)) (pss : List (List UInt8)) (w : World) (hf : frontN np = f) (h2 : 2 ≤ np) (h256 : np ≤ 256) (hpc : np ≤ pc) (hi : i < f) (hin : i < np)
    (hP : Parts w (some ⟨b, o, none⟩) np pss) (hl : ∀ p ∈ pss, p.length ≤ 5000) (hn : L.length ≤ 900)
    (hrec : ∀ W, Parts W (some ⟨b, o, none⟩) np pss → Calls Tryd.prog 32 #[.slice (some ⟨b, o, none⟩) f pc, .int .i64 i] W (GivesBe W L)) :
    Calls Tryd.prog 32 #[.slice (some ⟨b, o, none⟩) np pc, .int .i64 i] w (GivesBe w (L ++ [rootT (pss.drop f)])) := by
  have hfb := frontN_bounds h2
  rw [hf] at hfb
  obtain ⟨hf1, hf2, hf3⟩ := hfb
  have hRec := hid hrec
  have hRt := hid (fun W (hq : Parts W (some ⟨b, o, none⟩) np pss) => ofR_any np (some ⟨b, o + f, none⟩) (np - f) (pc - f) (pss.drop f) W (by omega) (parts_drop hq) (by omega) (by omega) (fun p hp => hl p (List.mem_of_mem_drop hp)))
  have hFr := hid (fun W => first_any np h2 (by omega) W)
  rw [hf] at hFr
  unfold GivesD at hRt
  have hdr := rootT_len (pss.drop f)
  generalize rootT (pss.drop f) = dr at *
  unfold GivesBe at hRec
  have HP := hid hP
  have t1 : ¬ (np : Int) = 1 := by omega
  have t2 : ((np : Int) == 1) = false := by simpa using t1
  have a1 : (f : Int) ≤ np := by omega
  have a2 : (f : Int) ≤ pc := by omega
  have a3 : (np : Int) ≤ pc := by omega
  have a4 : (np : Int) ≤ 1000 := by omega
  have a5 : (0 : Int) ≤ f := by omega
  have a6 : (i : Int) < np := by omega
  have a7 : (i : Int) < f := by omega
  have a8 : (0 : Int) ≤ i := by omega
  have a9 : (i : Int) ≤ 1000 := by omega
  have a10 : (f : Int) ≤ 1000 := by omega
  have a13 : IntKind.i64.wrap ((i : Int) - f) = (i : Int) - f := by rw [IntKind.wrap_i64]; omega
  have b1 : f ≤ np := by omega
  have hpf : ¬ pc = f := by omega
  have b2 : f ≤ pc := by omega
  have b3 : np ≤ 1000 := by omega
  have b4 : i ≤ 1000 := by omega
  have o0 : f * 1 = f := Nat.mul_one f
  obtain ⟨i0, hi0, hz0, hz1, hz2⟩ := info_parts dig_info
  clear hrec hP hl hf
  go_enter Tryd.func32, Tryd.ntmps32
  go_upto_region 5 with (first
    | ((with_reducible refine (hFr.out _).mono ?_); rintro e v1 ⟨rfl, hv⟩; subst hv))
  obtain ⟨cw, hcw⟩ : ∃ cw, v1.drew = cw := ⟨_, rfl⟩
  have hcs : cw.heap.size = v1.heap.size := by rw [← hcw]; rfl
  have hcb := hid (show Below v1.heap.size v1 cw from hcw ▸ below_self_drew v1)
  have HPd := hid (HP.out.below hcb.out)
  refine wp_region_held_drew (S := (fun _ => True)) (by kernel_rfl) trivial (fun hHeld => ?_); rw [hcw]
  refine reg_take (v := ?_) 0 rfl (by kernel_rfl) (by kernel_rfl) (by kernel_rfl) (fun _ _ _ h => h) (Or.inl ⟨by rfl, ?_⟩) (by assumption) ?_; rotate_left; (intro w hSw; (try dsimp only at hSw); go_simp); (try with_reducible rfl); (try simp only [Act.put, List.setIfInBounds_toArray, List.set_cons_zero, List.set_cons_succ])
  refine reg_take (v := ?_) 1 rfl (by kernel_rfl) (by kernel_rfl) (by kernel_rfl) (fun _ _ _ h => h) (Or.inl ⟨by rfl, ?_⟩) (by assumption) ?_; rotate_left; (intro w hSw; (try dsimp only at hSw); go_simp); (try with_reducible rfl); (try simp only [Act.put, List.setIfInBounds_toArray, List.set_cons_zero, List.set_cons_succ])
  refine reg_take (v := ?_) 2 rfl (by kernel_rfl) (by kernel_rfl) (by kernel_rfl) (fun _ _ _ h => h) (Or.inl ⟨by rfl, ?_⟩) (by assumption) ?_; rotate_left; (intro w hSw; (try dsimp only at hSw); go_simp); (try with_reducible rfl); (try simp only [Act.put, List.setIfInBounds_toArray, List.set_cons_zero, List.set_cons_succ])
  refine reg_take (v := ?_) 3 rfl (by kernel_rfl) (by kernel_rfl) (by kernel_rfl) (fun _ _ _ h => h) (Or.inl ⟨by rfl, ?_⟩) (by assumption) ?_; rotate_left; (intro w hSw; (try dsimp only at hSw); go_simp); (try with_reducible rfl); (try simp only [Act.put, List.setIfInBounds_toArray, List.set_cons_zero, List.set_cons_succ])
  refine reg_take (v := ?_) 5 rfl (by kernel_rfl) (by kernel_rfl) (by kernel_rfl) (fun _ _ _ h => h) (Or.inl ⟨by rfl, ?_⟩) (by assumption) ?_; rotate_left; (intro w hSw; (try dsimp only at hSw); go_simp); (try with_reducible rfl); (try simp only [Act.put, List.setIfInBounds_toArray, List.set_cons_zero, List.set_cons_succ])
  refine reg_take (v := ?_) 6 rfl (by kernel_rfl) (by kernel_rfl) (by kernel_rfl) (fun _ _ _ h => h) (Or.inl ⟨by rfl, ?_⟩) (by assumption) ?_; rotate_left; (intro w hSw; (try dsimp only at hSw); go_simp); (try with_reducible rfl); (try simp only [Act.put, List.setIfInBounds_toArray, List.set_cons_zero, List.set_cons_succ])
  refine reg_take (v := ?_) 7 rfl (by kernel_rfl) (by kernel_rfl) (by kernel_rfl) (fun _ _ _ h => h) (Or.inl ⟨by rfl, ?_⟩) (by assumption) ?_; rotate_left; (intro w hSw; (try dsimp only at hSw); go_simp); (try with_reducible rfl); (try simp only [Act.put, List.setIfInBounds_toArray, List.set_cons_zero, List.set_cons_succ])
  refine reg_only 4 rfl (by kernel_rfl) (fun K hK => ?_); go_simp; (with_reducible refine (hRec.out _ HPd.out).mono ?_); rintro e' u1 ⟨D1, c1, rfl, hO1, hb1⟩; have O1 := hid hO1; have Y1 := hid hb1; clear hO1 hb1; refine hK.out _ _ ?_ (fun hHeld => ?_); (trivial); clear hK K; (try simp only [Act.put, List.setIfInBounds_toArray, List.set_cons_zero, List.set_cons_succ])
  refine reg_only 8 rfl (by kernel_rfl) (fun K hK => ?_); go_simp; (with_reducible refine (hRt.out _ (HPd.out.below Y1.out)).mono ?_); rintro e' u4 ⟨rfl, hb4⟩; have O4 := hid (O1.out.below hb4); have Y4 := hid (below_chain Y1.out hb4); clear hb4; refine hK.out _ _ ?_ (fun hHeld => ?_); (trivial); clear hK K; (try simp only [Act.put, List.setIfInBounds_toArray, List.set_cons_zero, List.set_cons_succ])
  refine reg_only 9 rfl (by kernel_rfl) (fun K hK => ?_); refine step_bsl1 rfl 25 23 1 0 _ rfl _ rfl _ (dig_bslice dr hdr _) ?_; intro u5 hB5 hb5 hy; clear hy; have O5 := hid (O4.out.below hb5); have Y5 := hid (below_chain Y4.out hb5); have hR5 := hid (blk_rd32 dr hdr hB5); clear hB5 hb5; refine hK.out _ _ ?_ (fun hHeld => ?_); (trivial); clear hK K; (try simp only [Act.put, List.setIfInBounds_toArray, List.set_cons_zero, List.set_cons_succ])
  refine reg_only 10 rfl (by kernel_rfl) (fun K hK => ?_); refine step_app rfl _ _ _ rfl cw.heap.size 23 i0 _ 32 32 Tryd.underlying25 hi0 hz0 hz1 hz2 dig_cells (by omega) D1 L.length c1 _ rfl O5.out _ 1 1 0 (dr.map bv) rfl hR5.out (bv_one _) (by simp only [maxLen]; omega) (by omega) Y5.out.size ?_; intro D' c' u6 hO6 hg6 hat; have HO6 := hid hO6; have Y6 := hid (O5.out.grows hg6 Y5.out Y5.out.size); clear hO6 hg6 hat; refine hK.out _ _ ?_ (fun hHeld => ?_); (trivial); clear hK K; (try simp only [Act.put, List.setIfInBounds_toArray, List.set_cons_zero, List.set_cons_succ])
  refine reg_take (v := ?_) 11 rfl (by kernel_rfl) (by kernel_rfl) (by kernel_rfl) (fun _ _ _ h => h) (Or.inl ⟨by rfl, ?_⟩) (by assumption) ?_; rotate_left; (intro w hSw; (try dsimp only at hSw); go_simp); (try with_reducible rfl); (try simp only [Act.put, List.setIfInBounds_toArray, List.set_cons_zero, List.set_cons_succ])
  refine wpAnyH_done (by kernel_rfl) ?_ _

  go_wp2
  go_ret
  have e1 : (L ++ [dr]).length = L.length + 1 := by simp
  have e2 : dsL (L ++ [dr]) = dsL L ++ dr.map bv := by rw [dsL_app]; simp [dsL]
  refine ⟨D', c', by rw [e1]; rfl, ?_, below_chain hcb.out Y6.out⟩
  rw [e1, e2, ← hcs]
  exact HO6.out

set_option maxRecDepth 100000 in
set_option maxHeartbeats 8000000 in
theorem beside_ge (b o np pc f i : Nat) (L : List (List UInt8)) (pss : List (List UInt8)) (w : World) (hf : frontN np = f) (h2 : 2 ≤ np) (h256 : np ≤ 256) (hpc : np ≤ pc) (hi : ¬ i < f) (hin : i < np)
    (hP : Parts w (some ⟨b, o, none⟩) np pss) (hl : ∀ p ∈ pss, p.length ≤ 5000) (hn : L.length ≤ 900)
    (hrec : ∀ W, Parts W (some ⟨b, o, none⟩) np pss → Calls Tryd.prog 32 #[.slice (some ⟨b, o + f, none⟩) (np - f) (pc - f), .int .i64 ((i : Int) - f)] W (GivesBe W L)) :
    Calls Tryd.prog 32 #[.slice (some ⟨b, o, none⟩) np pc, .int .i64 i] w (GivesBe w (L ++ [rootT (pss.take f)])) := by
  have hfb := frontN_bounds h2
  rw [hf] at hfb
  obtain ⟨hf1, hf2, hf3⟩ := hfb
  have hRec := hid hrec
  have hRt := hid (fun W (hq : Parts W (some ⟨b, o, none⟩) np pss) => ofR_any np (some ⟨b, o, none⟩) f pc (pss.take f) W (by omega) (parts_take hq (by omega)) (by omega) (by omega) (fun p hp => hl p (List.mem_of_mem_take hp)))
  have hFr := hid (fun W => first_any np h2 (by omega) W)
  rw [hf] at hFr
  unfold GivesD at hRt
  have hdr := rootT_len (pss.take f)
  generalize rootT (pss.take f) = dr at *
  unfold GivesBe at hRec
  have HP := hid hP
  have t1 : ¬ (np : Int) = 1 := by omega
  have t2 : ((np : Int) == 1) = false := by simpa using t1
  have a1 : (f : Int) ≤ np := by omega
  have a2 : (f : Int) ≤ pc := by omega
  have a3 : (np : Int) ≤ pc := by omega
  have a4 : (np : Int) ≤ 1000 := by omega
  have a5 : (0 : Int) ≤ f := by omega
  have a6 : (i : Int) < np := by omega
  have a7 : ¬ (i : Int) < f := by omega
  have a8 : (0 : Int) ≤ i := by omega
  have a9 : (i : Int) ≤ 1000 := by omega
  have a10 : (f : Int) ≤ 1000 := by omega
  have a13 : IntKind.i64.wrap ((i : Int) - f) = (i : Int) - f := by rw [IntKind.wrap_i64]; omega
  have b1 : f ≤ np := by omega
  have hpf : ¬ pc = f := by omega
  have b2 : f ≤ pc := by omega
  have b3 : np ≤ 1000 := by omega
  have b4 : i ≤ 1000 := by omega
  have o0 : f * 1 = f := Nat.mul_one f
  obtain ⟨i0, hi0, hz0, hz1, hz2⟩ := info_parts dig_info
  clear hrec hP hl hf
  go_enter Tryd.func32, Tryd.ntmps32
  go_upto_region 6 with (first
    | ((with_reducible refine (hFr.out _).mono ?_); rintro e v1 ⟨rfl, hv⟩; subst hv))
  obtain ⟨cw, hcw⟩ : ∃ cw, v1.drew = cw := ⟨_, rfl⟩
  have hcs : cw.heap.size = v1.heap.size := by rw [← hcw]; rfl
  have hcb := hid (show Below v1.heap.size v1 cw from hcw ▸ below_self_drew v1)
  have HPd := hid (HP.out.below hcb.out)
  refine wp_region_held_drew (S := (fun _ => True)) (by kernel_rfl) trivial (fun hHeld => ?_); rw [hcw]
  refine reg_take (v := ?_) 0 rfl (by kernel_rfl) (by kernel_rfl) (by kernel_rfl) (fun _ _ _ h => h) (Or.inl ⟨by rfl, ?_⟩) (by assumption) ?_; rotate_left; (intro w hSw; (try dsimp only at hSw); go_simp); (try with_reducible rfl); (try simp only [Act.put, List.setIfInBounds_toArray, List.set_cons_zero, List.set_cons_succ])
  refine reg_take (v := ?_) 1 rfl (by kernel_rfl) (by kernel_rfl) (by kernel_rfl) (fun _ _ _ h => h) (Or.inl ⟨by rfl, ?_⟩) (by assumption) ?_; rotate_left; (intro w hSw; (try dsimp only at hSw); go_simp); (try with_reducible rfl); (try simp only [Act.put, List.setIfInBounds_toArray, List.set_cons_zero, List.set_cons_succ])
  refine reg_take (v := ?_) 2 rfl (by kernel_rfl) (by kernel_rfl) (by kernel_rfl) (fun _ _ _ h => h) (Or.inl ⟨by rfl, ?_⟩) (by assumption) ?_; rotate_left; (intro w hSw; (try dsimp only at hSw); go_simp); (try with_reducible rfl); (try simp only [Act.put, List.setIfInBounds_toArray, List.set_cons_zero, List.set_cons_succ])
  refine reg_take (v := ?_) 3 rfl (by kernel_rfl) (by kernel_rfl) (by kernel_rfl) (fun _ _ _ h => h) (Or.inl ⟨by rfl, ?_⟩) (by assumption) ?_; rotate_left; (intro w hSw; (try dsimp only at hSw); go_simp); (try with_reducible rfl); (try simp only [Act.put, List.setIfInBounds_toArray, List.set_cons_zero, List.set_cons_succ])
  refine reg_take (v := ?_) 4 rfl (by kernel_rfl) (by kernel_rfl) (by kernel_rfl) (fun _ _ _ h => h) (Or.inl ⟨by rfl, ?_⟩) (by assumption) ?_; rotate_left; (intro w hSw; (try dsimp only at hSw); go_simp); (try with_reducible rfl); (try simp only [Act.put, List.setIfInBounds_toArray, List.set_cons_zero, List.set_cons_succ])
  refine reg_take (v := ?_) 5 rfl (by kernel_rfl) (by kernel_rfl) (by kernel_rfl) (fun _ _ _ h => h) (Or.inl ⟨by rfl, ?_⟩) (by assumption) ?_; rotate_left; (intro w hSw; (try dsimp only at hSw); go_simp); (try with_reducible rfl); (try simp only [Act.put, List.setIfInBounds_toArray, List.set_cons_zero, List.set_cons_succ])
  refine reg_take (v := ?_) 7 rfl (by kernel_rfl) (by kernel_rfl) (by kernel_rfl) (fun _ _ _ h => h) (Or.inl ⟨by rfl, ?_⟩) (by assumption) ?_; rotate_left; (intro w hSw; (try dsimp only at hSw); go_simp); (try with_reducible rfl); (try simp only [Act.put, List.setIfInBounds_toArray, List.set_cons_zero, List.set_cons_succ])
  refine reg_take (v := ?_) 8 rfl (by kernel_rfl) (by kernel_rfl) (by kernel_rfl) (fun _ _ _ h => h) (Or.inl ⟨by rfl, ?_⟩) (by assumption) ?_; rotate_left; (intro w hSw; (try dsimp only at hSw); go_simp); (try with_reducible rfl); (try simp only [Act.put, List.setIfInBounds_toArray, List.set_cons_zero, List.set_cons_succ])
  refine reg_take (v := ?_) 9 rfl (by kernel_rfl) (by kernel_rfl) (by kernel_rfl) (fun _ _ _ h => h) (Or.inl ⟨by rfl, ?_⟩) (by assumption) ?_; rotate_left; (intro w hSw; (try dsimp only at hSw); go_simp); (try with_reducible rfl); (try simp only [Act.put, List.setIfInBounds_toArray, List.set_cons_zero, List.set_cons_succ])
  refine reg_only 6 rfl (by kernel_rfl) (fun K hK => ?_); go_simp; (with_reducible refine (hRec.out _ HPd.out).mono ?_); rintro e' u1 ⟨D1, c1, rfl, hO1, hb1⟩; have O1 := hid hO1; have Y1 := hid hb1; clear hO1 hb1; refine hK.out _ _ ?_ (fun hHeld => ?_); (trivial); clear hK K; (try simp only [Act.put, List.setIfInBounds_toArray, List.set_cons_zero, List.set_cons_succ])
  refine reg_only 10 rfl (by kernel_rfl) (fun K hK => ?_); go_simp; (with_reducible refine (hRt.out _ (HPd.out.below Y1.out)).mono ?_); rintro e' u4 ⟨rfl, hb4⟩; have O4 := hid (O1.out.below hb4); have Y4 := hid (below_chain Y1.out hb4); clear hb4; refine hK.out _ _ ?_ (fun hHeld => ?_); (trivial); clear hK K; (try simp only [Act.put, List.setIfInBounds_toArray, List.set_cons_zero, List.set_cons_succ])
  refine reg_only 11 rfl (by kernel_rfl) (fun K hK => ?_); refine step_bsl1 rfl 25 23 1 0 _ rfl _ rfl _ (dig_bslice dr hdr _) ?_; intro u5 hB5 hb5 hy; clear hy; have O5 := hid (O4.out.below hb5); have Y5 := hid (below_chain Y4.out hb5); have hR5 := hid (blk_rd32 dr hdr hB5); clear hB5 hb5; refine hK.out _ _ ?_ (fun hHeld => ?_); (trivial); clear hK K; (try simp only [Act.put, List.setIfInBounds_toArray, List.set_cons_zero, List.set_cons_succ])
  refine reg_only 12 rfl (by kernel_rfl) (fun K hK => ?_); refine step_app rfl _ _ _ rfl cw.heap.size 23 i0 _ 32 32 Tryd.underlying25 hi0 hz0 hz1 hz2 dig_cells (by omega) D1 L.length c1 _ rfl O5.out _ 1 1 0 (dr.map bv) rfl hR5.out (bv_one _) (by simp only [maxLen]; omega) (by omega) Y5.out.size ?_; intro D' c' u6 hO6 hg6 hat; have HO6 := hid hO6; have Y6 := hid (O5.out.grows hg6 Y5.out Y5.out.size); clear hO6 hg6 hat; refine hK.out _ _ ?_ (fun hHeld => ?_); (trivial); clear hK K; (try simp only [Act.put, List.setIfInBounds_toArray, List.set_cons_zero, List.set_cons_succ])
  refine reg_take (v := ?_) 13 rfl (by kernel_rfl) (by kernel_rfl) (by kernel_rfl) (fun _ _ _ h => h) (Or.inl ⟨by rfl, ?_⟩) (by assumption) ?_; rotate_left; (intro w hSw; (try dsimp only at hSw); go_simp); (try with_reducible rfl); (try simp only [Act.put, List.setIfInBounds_toArray, List.set_cons_zero, List.set_cons_succ])
  refine wpAnyH_done (by kernel_rfl) ?_ _

  go_wp2
  go_ret
  have e1 : (L ++ [dr]).length = L.length + 1 := by simp
  have e2 : dsL (L ++ [dr]) = dsL L ++ dr.map bv := by rw [dsL_app]; simp [dsL]
  refine ⟨D', c', by rw [e1]; rfl, ?_, below_chain hcb.out Y6.out⟩
  rw [e1, e2, ← hcs]
  exact HO6.out

theorem beside_any : ∀ (N : Nat) (P : Option Addr) (np pc i : Nat) (pss : List (List UInt8)) (w : World), np ≤ N → 1 ≤ np → np ≤ 256 → np ≤ pc → i < np → Parts w P np pss → (∀ p ∈ pss, p.length ≤ 5000) → Calls Tryd.prog 32 #[.slice P np pc, .int .i64 i] w (GivesBe w (sidesT pss i))
  | N, P, np, pc, i, pss, w, hN, h1, h256, hpc, hi, hP, hl => by
    have hle := hP.1
    match np, hN, h1, h256, hpc, hi, hP, hle with
    | 0, _, h1, _, _, _, _, _ => omega
    | 1, hN, h1, h256, hpc, hi, hP, hle =>
      rw [sidesT_one (by omega)]
      exact beside_one P pc i w
    | k + 2, hN, h1, h256, hpc, hi, hP, hle =>
      obtain ⟨b, o, _, _, _, _, rfl, _⟩ := hP.at_ (k := 0) (by omega)
      have hfb := frontN_bounds (n := k + 2) (by omega)
      match N, hN with
      | 0, hN => omega
      | N + 1, hN =>
        by_cases hf : i < frontN (k + 2)
        · have htl : (pss.take (frontN (k + 2))).length = frontN (k + 2) := by rw [List.length_take]; omega
          have h8 := sides_len8 (pss := pss.take (frontN (k + 2))) (i := i) (by omega) (by omega)
          rw [sidesT_lt (by omega) (by rw [hle]; exact hf), hle]
          exact beside_lt b o (k + 2) pc _ i _ pss w rfl (by omega) h256 hpc hf hi hP hl (by omega)
            (fun W hq => beside_any N (some ⟨b, o, none⟩) (frontN (k + 2)) pc i (pss.take (frontN (k + 2))) W (by omega) (by omega) (by omega) (by omega) hf (parts_take hq (by omega)) (fun p hp => hl p (List.mem_of_mem_take hp)))
        · have htl : (pss.drop (frontN (k + 2))).length = k + 2 - frontN (k + 2) := by rw [List.length_drop, hle]
          have h8 := sides_len8 (pss := pss.drop (frontN (k + 2))) (i := i - frontN (k + 2)) (by omega) (by omega)
          rw [sidesT_ge (by omega) (by rw [hle]; exact hf), hle]
          have hci : ((i - frontN (k + 2) : Nat) : Int) = (i : Int) - (frontN (k + 2) : Nat) := by omega
          exact beside_ge b o (k + 2) pc _ i _ pss w rfl (by omega) h256 hpc hf hi hP hl (by omega)
            (fun W hq => by
              have ih := beside_any N (some ⟨b, o + frontN (k + 2), none⟩) (k + 2 - frontN (k + 2)) (pc - frontN (k + 2)) (i - frontN (k + 2)) (pss.drop (frontN (k + 2))) W (by omega) (by omega) (by omega) (by omega) (by omega) (parts_drop hq) (fun p hp => hl p (List.mem_of_mem_drop hp))
              rwa [hci] at ih)

set_option maxRecDepth 100000 in
set_option maxHeartbeats 4000000 in
theorem sidesR_any (P : Option Addr) (np pc : Nat) (i : Int) (pss : List (List UInt8)) (w : World) (hP : Parts w P np pss) (hpc : np ≤ pc) :
    Calls Tryd.prog 17 #[.slice P np pc, .int .i64 i] w (GivesDsE w (sidesE pss i)) := by
  have HP := hid hP
  have hle := hP.1
  have hLi := hid (fun W (h : Parts W P np pss) => may13_any P np pc pss W h _ rfl)
  unfold sidesE
  by_cases hb : listB pss = false
  · rw [if_pos hb]
    rw [hb] at hLi
    clear hP hb
    go_enter Tryd.func17, Tryd.ntmps17
    go_wp2_with (first
      | ((with_reducible refine (hLi.out _ HP.out).mono ?_); rintro e w1 ⟨rfl, hv⟩; subst hv))
    go_ret2
    exact ⟨_, _, rfl, Digs.nil _ _, Nat.zero_le _, Below.refl _ _⟩
  have hbt : listB pss = true := by simpa using hb
  rw [if_neg hb]
  rw [hbt] at hLi
  by_cases hi : i < 0 ∨ i ≥ pss.length
  · rw [if_pos hi]
    rw [hle] at hi
    clear hP hb hbt hle
    by_cases t1 : i < 0
    · go_enter Tryd.func17, Tryd.ntmps17
      go_wp2_with (first
        | ((with_reducible refine (hLi.out _ HP.out).mono ?_); rintro e w1 ⟨rfl, hv⟩; subst hv))
      go_ret2
      exact ⟨_, _, rfl, Digs.nil _ _, Nat.zero_le _, Below.refl _ _⟩
    · have t2 : i ≥ (np : Int) := by omega
      have t3 : ¬ i < (np : Int) := by omega
      clear hi
      go_enter Tryd.func17, Tryd.ntmps17
      go_wp2_with (first
        | ((with_reducible refine (hLi.out _ HP.out).mono ?_); rintro e w1 ⟨rfl, hv⟩; subst hv))
      go_ret2
      exact ⟨_, _, rfl, Digs.nil _ _, Nat.zero_le _, Below.refl _ _⟩
  rw [if_neg hi]
  obtain ⟨h256, hlens⟩ := listB_parts hbt
  obtain ⟨n, rfl⟩ := Int.eq_ofNat_of_zero_le (show 0 ≤ i by omega)
  have hin : n < np := by omega
  have hInd := hid (fun W (h : Parts W P np pss) => beside_any np P np pc n pss W (Nat.le_refl _) (by omega) (by omega) hpc hin h (fun p hp => by have := hlens p hp; omega))
  have ti : ¬ (n : Int) < 0 := by omega
  have tn : ¬ (n : Int) ≥ np := by omega
  have tn2 : (n : Int) < np := by omega
  rw [show ((n : Int)).toNat = n from rfl]
  have hdg := sides_dg pss.length pss n (Nat.le_refl _)
  unfold GivesBe at hInd
  generalize sidesT pss n = L at *
  clear hP hb hbt hi hle hlens
  go_enter Tryd.func17, Tryd.ntmps17
  go_wp2_with (first
    | ((with_reducible refine (hLi.out _ HP.out).mono ?_); rintro e w1 ⟨rfl, hv⟩; subst hv)
    | ((with_reducible refine (hInd.out _ HP.out).mono ?_); rintro e w6 ⟨D6, c6', rfl, hO6, hB6⟩; have B6 := hid hB6; have O6 := hid hO6; clear hB6 hO6))
  go_ret2
  exact ⟨D6, c6', rfl, ⟨hdg, O6.out.rd.low (Nat.zero_le _)⟩, O6.out.cap.1, B6.out⟩
end Go.Proofs.YtheljogmnalbmaaDoor
