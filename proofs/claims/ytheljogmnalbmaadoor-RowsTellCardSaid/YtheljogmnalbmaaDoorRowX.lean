/-
  Contracts of ref01.Same and ref03.Same at equal rows. No condition.
-/
import Derived.Test.YtheljogmnalbmaaDoorRowJ
namespace Go.Proofs.YtheljogmnalbmaaDoor
open Go.RowKit
set_option linter.unusedSimpArgs false
set_option linter.unusedVariables false

set_option maxRecDepth 100000 in
theorem sameS_eq (A B : Option Addr) (n c m d : Nat) (xs : List UInt8) (w : World) (hx : Rd w 0 1 A n (xs.map bv)) (hy : Rd w 0 1 B m (xs.map bv)) :
    Calls Tryd.prog 33 #[.slice A n c, .slice B m d] w fun e w' => e = .returned (.bool true) ∧ w' = w := by
  have h1 := run_bytes_string (P := Tryd.prog) w 24 5 9 Tryd.underlying24 Tryd.underlying5 Tryd.underlying9 A n c 0 xs hx
  have h2 := run_bytes_string (P := Tryd.prog) w 24 5 9 Tryd.underlying24 Tryd.underlying5 Tryd.underlying9 B m d 0 xs hy
  clear hx hy
  go_enter Tryd.func33, Tryd.ntmps33
  go_wp2
  go_ret
  exact ⟨by simp, rfl⟩

set_option maxRecDepth 100000 in
set_option maxHeartbeats 4000000 in
theorem sameL_eq (P Q : Option Addr) (np pc qc : Nat) (pss : List (List UInt8)) (w : World) (hP : Parts w P np pss) (hQ : Parts w Q np pss) (hnp : np ≤ 1000) :
    Calls Tryd.prog 19 #[.slice P np pc, .slice Q np qc] w (GivesBo w true) := by
  have HP := hid hP
  have HQ := hid hQ
  have hle := hid hP.1
  unfold GivesBo
  clear hP hQ
  go_enter Tryd.func19, Tryd.ntmps19
  go_wp2_with fail
  go_loopw [5] (fun i wx => ∃ k : Nat, k ≤ np ∧ i = .int .i64 k ∧ Below w.heap.size w wx) (fun i _ => np - (intOf i).toNat)
  case atStart => exact ⟨0, Nat.zero_le _, rfl, Below.refl _ _⟩
  case round =>
    obtain ⟨k, hk, rfl, hb⟩ := hrel
    have B := hid hb
    clear hb
    have htz : (0 : Int) ≤ (k : Int) := by omega
    have hnp' : (np : Int) ≤ 1000 := by omega
    by_cases hlt : k < np
    · have hltH := hid hlt
      have hti : (k : Int) < (np : Int) := by omega
      obtain ⟨b1, o1, A, m, mc, p, rfl, _, hc1, hp, _, _, hr⟩ := (HP.out.below B.out).at_ hlt
      obtain ⟨b2, o2, A2, m2, mc2, p2, rfl, _, hc2, hp2, _, _, hr2⟩ := (HQ.out.below B.out).at_ hlt
      have hpp : p2 = p := by rw [← hp2, hp]
      subst hpp
      have HR := hid hr
      have HR2 := hid hr2
      obtain ⟨a1, ha1⟩ : ∃ a, o1 + k = a := ⟨_, rfl⟩
      obtain ⟨a2, ha2⟩ : ∃ a, o2 + k = a := ⟨_, rfl⟩
      rw [ha1] at hc1
      rw [ha2] at hc2
      have hr0 : wr.drew.cell? ⟨b1, a1, none⟩ = some (.slice A m mc) ∧ wr.drew.cell? ⟨b2, a2, none⟩ = some (.slice A2 m2 mc2) := ⟨hc1, hc2⟩
      have Bd := hid (below_drew1 B.out)
      have hSm := hid (sameS_eq A A2 m mc m2 mc2 p2 wr.drew hr hr2)
      have hr0H := hid hr0
      clear hp hp2 hr hr2
      go_wp2_with fail
      refine wp_region_held_drew (S := (fun w' => w'.cell? ⟨b1, a1, none⟩ = some (.slice A m mc) ∧ w'.cell? ⟨b2, a2, none⟩ = some (.slice A2 m2 mc2))) (by kernel_rfl) hr0 (fun hHeld => ?_)
      refine reg_take (v := ?_) 0 rfl (by kernel_rfl) (by kernel_rfl) (by kernel_rfl) (fun _ _ _ h => h) (Or.inl ⟨by rfl, ?_⟩) (by assumption) ?_; rotate_left; (intro w hSw; (try dsimp only at hSw); go_simp); (try with_reducible rfl); (try simp only [Act.put, List.setIfInBounds_toArray, List.set_cons_zero, List.set_cons_succ])
      refine reg_take (v := ?_) 1 rfl (by kernel_rfl) (by kernel_rfl) (by kernel_rfl) (fun _ _ _ h => h) (Or.inl ⟨by rfl, ?_⟩) (by assumption) ?_; rotate_left; (intro w hSw; (try dsimp only at hSw); go_simp); (try with_reducible rfl); (try simp only [Act.put, List.setIfInBounds_toArray, List.set_cons_zero, List.set_cons_succ])
      refine reg_take (v := ?_) 2 rfl (by kernel_rfl) (by kernel_rfl) (by kernel_rfl) (fun _ _ _ h => h) (Or.inl ⟨by rfl, ?_⟩) (by assumption) ?_; rotate_left; (intro w hSw; (try dsimp only at hSw); go_simp); (try with_reducible rfl); (try simp only [Act.put, List.setIfInBounds_toArray, List.set_cons_zero, List.set_cons_succ])
      refine reg_take (v := ?_) 3 rfl (by kernel_rfl) (by kernel_rfl) (by kernel_rfl) (fun _ _ _ h => h) (Or.inl ⟨by rfl, ?_⟩) (by assumption) ?_; rotate_left; (intro w hSw; (try dsimp only at hSw); go_simp); (try with_reducible rfl); (try simp only [Act.put, List.setIfInBounds_toArray, List.set_cons_zero, List.set_cons_succ])
      refine reg_take (v := ?_) 4 rfl (by kernel_rfl) (by kernel_rfl) (by kernel_rfl) (fun _ _ _ h => h) (Or.inl ⟨by rfl, ?_⟩) (by assumption) ?_; rotate_left; (intro w hSw; (try dsimp only at hSw); go_simp); (try with_reducible rfl); (try simp only [Act.put, List.setIfInBounds_toArray, List.set_cons_zero, List.set_cons_succ])
      refine reg_take (v := ?_) 5 rfl (by kernel_rfl) (by kernel_rfl) (by kernel_rfl) (fun _ _ _ h => h) (Or.inl ⟨by rfl, ?_⟩) (by assumption) ?_; rotate_left; (intro w hSw; (try dsimp only at hSw); go_simp); (try with_reducible rfl); (try simp only [Act.put, List.setIfInBounds_toArray, List.set_cons_zero, List.set_cons_succ])
      refine reg_take (v := ?_) 6 rfl (by kernel_rfl) (by kernel_rfl) (by kernel_rfl) (fun _ _ _ h => h) (Or.inl ⟨by rfl, ?_⟩) (by assumption) ?_; rotate_left; (intro w hSw; (try dsimp only at hSw); go_simp); (try with_reducible rfl); (try simp only [Act.put, List.setIfInBounds_toArray, List.set_cons_zero, List.set_cons_succ])
      refine reg_take (v := ?_) 7 rfl (by kernel_rfl) (by kernel_rfl) (by kernel_rfl) (fun _ _ _ h => h) (Or.inl ⟨by rfl, ?_⟩) (by assumption) ?_; rotate_left; (intro w hSw; (try dsimp only at hSw); go_simp); (try with_reducible rfl); (try simp only [Act.put, List.setIfInBounds_toArray, List.set_cons_zero, List.set_cons_succ])
      refine reg_only 8 rfl (by kernel_rfl) (fun K hK => ?_); go_simp; (with_reducible refine hSm.out.mono ?_); rintro e' u1 ⟨rfl, hu⟩; subst hu; refine hK.out _ _ ?_ (fun hHeld => ?_); (exact hr0H.out); clear hK K; (try simp only [Act.put, List.setIfInBounds_toArray, List.set_cons_zero, List.set_cons_succ])
      refine reg_take (v := ?_) 9 rfl (by kernel_rfl) (by kernel_rfl) (by kernel_rfl) (fun _ _ _ h => h) (Or.inl ⟨by rfl, ?_⟩) (by assumption) ?_; rotate_left; (intro w hSw; (try dsimp only at hSw); go_simp); (try with_reducible rfl); (try simp only [Act.put, List.setIfInBounds_toArray, List.set_cons_zero, List.set_cons_succ])
      refine wpAnyH_done (by kernel_rfl) ?_ _
      go_wp2
      exact ⟨⟨k + 1, by have := hltH.out; omega, by go_num, Bd.out⟩, by have := hltH.out; simp [intOf]; omega⟩
    · obtain rfl : k = np := by omega
      have hti : ¬ (k : Int) < (k : Int) := by omega
      go_wp2
      go_ret
      exact ⟨rfl, B.out⟩
end Go.Proofs.YtheljogmnalbmaaDoor
