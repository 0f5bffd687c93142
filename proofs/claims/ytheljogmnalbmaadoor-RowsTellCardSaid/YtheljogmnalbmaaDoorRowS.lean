/-
  The contract of the reference's SameDigests. No condition.
-/
import Derived.Test.YtheljogmnalbmaaDoorRowQ
namespace Go.Proofs.YtheljogmnalbmaaDoor
open Go.RowKit
set_option linter.unusedSimpArgs false
set_option linter.unusedVariables false

theorem take_step {xs ys : List (List UInt8)} {k : Nat} {x y : List UInt8} (h : xs.take k = ys.take k) (hx : xs[k]? = some x) (hy : ys[k]? = some y) : (x = y → xs.take (k + 1) = ys.take (k + 1)) ∧ (¬ x = y → ¬ xs = ys) := by
  obtain ⟨lx, ex⟩ := List.getElem?_eq_some_iff.1 hx
  obtain ⟨ly, ey⟩ := List.getElem?_eq_some_iff.1 hy
  refine ⟨fun e => ?_, fun e h2 => ?_⟩
  · rw [List.take_succ_eq_append_getElem lx, List.take_succ_eq_append_getElem ly, h, ex, ey, e]
  · subst h2
    rw [hx] at hy
    exact e (Option.some.inj hy)

set_option maxRecDepth 100000 in
set_option maxHeartbeats 4000000 in
theorem sameD_any (A B : Option Addr) (n c m d : Nat) (xs ys : List (List UInt8)) (w : World) (hx : Digs w A n xs) (hy : Digs w B m ys) (hn : n ≤ 1000) :
    Calls Tryd.prog 18 #[.slice A n c, .slice B m d] w (GivesBo w (decide (xs = ys))) := by
  have hxl := hx.len
  have hyl := hy.len
  unfold GivesBo
  by_cases h : n = m
  · subst h
    have HX := hid hx
    have HY := hid hy
    have hxh := hid hxl
    have hyh := hid hyl
    have hu := Tryd.underlying23
    clear hx hy hxl hyl
    go_enter Tryd.func18, Tryd.ntmps18
    go_wp2_with fail
    go_loopw [5] (fun i wx => ∃ k : Nat, k ≤ n ∧ i = .int .i64 k ∧ Below w.heap.size w wx ∧ xs.take k = ys.take k) (fun i _ => n - (intOf i).toNat)
    case atStart => exact ⟨0, Nat.zero_le _, rfl, Below.refl _ _, rfl⟩
    case round =>
      obtain ⟨k, hk, rfl, hb, ht⟩ := hrel
      have HB := hid hb
      have HT := hid ht
      have htz : (0 : Int) ≤ (k : Int) := by omega
      have hn' : (n : Int) ≤ 1000 := by omega
      clear hb ht
      by_cases hlt : k < n
      · have hltH := hid hlt
        have hti : (k : Int) < (n : Int) := by omega
        have hxk : xs[k]? = some (xs[k]'(by rw [hxh.out]; exact hlt)) := List.getElem?_eq_getElem _
        have hyk : ys[k]? = some (ys[k]'(by rw [hyh.out]; exact hlt)) := List.getElem?_eq_getElem _
        generalize xs[k]'(by rw [hxh.out]; exact hlt) = x at hxk
        generalize ys[k]'(by rw [hyh.out]; exact hlt) = y at hyk
        obtain ⟨b1, o1, e1, _, hx32, r1, _⟩ := (HX.out.below HB.out).at_ hxk
        obtain ⟨b2, o2, e2, _, hy32, r2, _⟩ := (HY.out.below HB.out).at_ hyk
        have hStep := hid (take_step HT.out hxk hyk)
        have hE := run_eq_dig x y hx32 hy32
        have hL1 : (Tryd.prog.info? 23).map (·.size) = some (x.map bv).length := by rw [digS _ hx32, List.size_toArray]
        have hL2 : (Tryd.prog.info? 23).map (·.size) = some (y.map bv).length := by rw [digS _ hy32, List.size_toArray]
        subst e1 e2
        obtain ⟨a1, ha1⟩ : ∃ a, o1 + k * 32 = a := ⟨_, rfl⟩
        obtain ⟨a2, ha2⟩ : ∃ a, o2 + k * 32 = a := ⟨_, rfl⟩
        rw [ha1] at r1
        rw [ha2] at r2
        have hr0 : wr.drew.rangeAt b1 a1 (x.map bv) ∧ wr.drew.rangeAt b2 a2 (y.map bv) := ⟨r1, r2⟩
        have HBd := hid (below_drew1 HB.out)
        by_cases hxy : x = y
        · rw [decide_eq_true hxy] at hE
          have HS := hid (hStep.out.1 hxy)
          clear hxk hyk hxy r1 r2
          generalize x.map bv = xv at *
          generalize y.map bv = yv at *
          go_wp2_with fail
          refine wp_region_held_drew (S := (fun w' => w'.rangeAt b1 a1 xv ∧ w'.rangeAt b2 a2 yv)) (by kernel_rfl) hr0 (fun hHeld => ?_)
          refine reg_take (v := ?_) 0 rfl (by kernel_rfl) (by kernel_rfl) (by kernel_rfl) (fun _ _ _ h => h) (Or.inl ⟨by rfl, ?_⟩) (by assumption) ?_; rotate_left; (intro w hSw; (try dsimp only at hSw); go_simp); (try with_reducible rfl); (try simp only [Act.put, List.setIfInBounds_toArray, List.set_cons_zero, List.set_cons_succ])
          refine reg_take (v := ?_) 1 rfl (by kernel_rfl) (by kernel_rfl) (by kernel_rfl) (fun _ _ _ h => h) (Or.inl ⟨by rfl, ?_⟩) (by assumption) ?_; rotate_left; (intro w hSw; (try dsimp only at hSw); go_simp); (try with_reducible rfl); (try simp only [Act.put, List.setIfInBounds_toArray, List.set_cons_zero, List.set_cons_succ])
          refine reg_take (v := ?_) 2 rfl (by kernel_rfl) (by kernel_rfl) (by kernel_rfl) (fun _ _ _ h => h) (Or.inl ⟨by rfl, ?_⟩) (by assumption) ?_; rotate_left; (intro w hSw; (try dsimp only at hSw); go_simp); (try with_reducible rfl); (try simp only [Act.put, List.setIfInBounds_toArray, List.set_cons_zero, List.set_cons_succ])
          refine reg_take 3 rfl (by kernel_rfl) (by kernel_rfl) (by kernel_rfl) (fun _ _ _ h => h) (yieldsIf_load_mid (by rfl) _ _ rfl _ _ rfl _ _ (by intro w hSw; (try dsimp only at hSw); go_split_ands; assumption) (by assumption) (by rfl) (by assumption)) (by assumption) ?_; (try simp only [Act.put, List.setIfInBounds_toArray, List.set_cons_zero, List.set_cons_succ])
          refine reg_take (v := ?_) 4 rfl (by kernel_rfl) (by kernel_rfl) (by kernel_rfl) (fun _ _ _ h => h) (Or.inl ⟨by rfl, ?_⟩) (by assumption) ?_; rotate_left; (intro w hSw; (try dsimp only at hSw); go_simp); (try with_reducible rfl); (try simp only [Act.put, List.setIfInBounds_toArray, List.set_cons_zero, List.set_cons_succ])
          refine reg_take (v := ?_) 5 rfl (by kernel_rfl) (by kernel_rfl) (by kernel_rfl) (fun _ _ _ h => h) (Or.inl ⟨by rfl, ?_⟩) (by assumption) ?_; rotate_left; (intro w hSw; (try dsimp only at hSw); go_simp); (try with_reducible rfl); (try simp only [Act.put, List.setIfInBounds_toArray, List.set_cons_zero, List.set_cons_succ])
          refine reg_take (v := ?_) 6 rfl (by kernel_rfl) (by kernel_rfl) (by kernel_rfl) (fun _ _ _ h => h) (Or.inl ⟨by rfl, ?_⟩) (by assumption) ?_; rotate_left; (intro w hSw; (try dsimp only at hSw); go_simp); (try with_reducible rfl); (try simp only [Act.put, List.setIfInBounds_toArray, List.set_cons_zero, List.set_cons_succ])
          refine reg_take 7 rfl (by kernel_rfl) (by kernel_rfl) (by kernel_rfl) (fun _ _ _ h => h) (yieldsIf_load_mid (by rfl) _ _ rfl _ _ rfl _ _ (by intro w hSw; (try dsimp only at hSw); go_split_ands; assumption) (by assumption) (by rfl) (by assumption)) (by assumption) ?_; (try simp only [Act.put, List.setIfInBounds_toArray, List.set_cons_zero, List.set_cons_succ])
          refine reg_take (v := ?_) 8 rfl (by kernel_rfl) (by kernel_rfl) (by kernel_rfl) (fun _ _ _ h => h) (Or.inl ⟨by rfl, ?_⟩) (by assumption) ?_; rotate_left; (intro w hSw; (try dsimp only at hSw); go_simp); (try with_reducible rfl); (try simp only [Act.put, List.setIfInBounds_toArray, List.set_cons_zero, List.set_cons_succ])
          refine wpAnyH_done (by kernel_rfl) ?_ _
          go_wp2
          exact ⟨⟨k + 1, by have := hltH.out; omega, by go_num, HBd.out, HS.out⟩, by have := hltH.out; simp [intOf]; omega⟩
        · rw [decide_eq_false hxy] at hE
          have HS := hid (hStep.out.2 hxy)
          clear hxk hyk hxy r1 r2
          generalize x.map bv = xv at *
          generalize y.map bv = yv at *
          go_wp2_with fail
          refine wp_region_held_drew (S := (fun w' => w'.rangeAt b1 a1 xv ∧ w'.rangeAt b2 a2 yv)) (by kernel_rfl) hr0 (fun hHeld => ?_)
          refine reg_take (v := ?_) 0 rfl (by kernel_rfl) (by kernel_rfl) (by kernel_rfl) (fun _ _ _ h => h) (Or.inl ⟨by rfl, ?_⟩) (by assumption) ?_; rotate_left; (intro w hSw; (try dsimp only at hSw); go_simp); (try with_reducible rfl); (try simp only [Act.put, List.setIfInBounds_toArray, List.set_cons_zero, List.set_cons_succ])
          refine reg_take (v := ?_) 1 rfl (by kernel_rfl) (by kernel_rfl) (by kernel_rfl) (fun _ _ _ h => h) (Or.inl ⟨by rfl, ?_⟩) (by assumption) ?_; rotate_left; (intro w hSw; (try dsimp only at hSw); go_simp); (try with_reducible rfl); (try simp only [Act.put, List.setIfInBounds_toArray, List.set_cons_zero, List.set_cons_succ])
          refine reg_take (v := ?_) 2 rfl (by kernel_rfl) (by kernel_rfl) (by kernel_rfl) (fun _ _ _ h => h) (Or.inl ⟨by rfl, ?_⟩) (by assumption) ?_; rotate_left; (intro w hSw; (try dsimp only at hSw); go_simp); (try with_reducible rfl); (try simp only [Act.put, List.setIfInBounds_toArray, List.set_cons_zero, List.set_cons_succ])
          refine reg_take 3 rfl (by kernel_rfl) (by kernel_rfl) (by kernel_rfl) (fun _ _ _ h => h) (yieldsIf_load_mid (by rfl) _ _ rfl _ _ rfl _ _ (by intro w hSw; (try dsimp only at hSw); go_split_ands; assumption) (by assumption) (by rfl) (by assumption)) (by assumption) ?_; (try simp only [Act.put, List.setIfInBounds_toArray, List.set_cons_zero, List.set_cons_succ])
          refine reg_take (v := ?_) 4 rfl (by kernel_rfl) (by kernel_rfl) (by kernel_rfl) (fun _ _ _ h => h) (Or.inl ⟨by rfl, ?_⟩) (by assumption) ?_; rotate_left; (intro w hSw; (try dsimp only at hSw); go_simp); (try with_reducible rfl); (try simp only [Act.put, List.setIfInBounds_toArray, List.set_cons_zero, List.set_cons_succ])
          refine reg_take (v := ?_) 5 rfl (by kernel_rfl) (by kernel_rfl) (by kernel_rfl) (fun _ _ _ h => h) (Or.inl ⟨by rfl, ?_⟩) (by assumption) ?_; rotate_left; (intro w hSw; (try dsimp only at hSw); go_simp); (try with_reducible rfl); (try simp only [Act.put, List.setIfInBounds_toArray, List.set_cons_zero, List.set_cons_succ])
          refine reg_take (v := ?_) 6 rfl (by kernel_rfl) (by kernel_rfl) (by kernel_rfl) (fun _ _ _ h => h) (Or.inl ⟨by rfl, ?_⟩) (by assumption) ?_; rotate_left; (intro w hSw; (try dsimp only at hSw); go_simp); (try with_reducible rfl); (try simp only [Act.put, List.setIfInBounds_toArray, List.set_cons_zero, List.set_cons_succ])
          refine reg_take 7 rfl (by kernel_rfl) (by kernel_rfl) (by kernel_rfl) (fun _ _ _ h => h) (yieldsIf_load_mid (by rfl) _ _ rfl _ _ rfl _ _ (by intro w hSw; (try dsimp only at hSw); go_split_ands; assumption) (by assumption) (by rfl) (by assumption)) (by assumption) ?_; (try simp only [Act.put, List.setIfInBounds_toArray, List.set_cons_zero, List.set_cons_succ])
          refine reg_take (v := ?_) 8 rfl (by kernel_rfl) (by kernel_rfl) (by kernel_rfl) (fun _ _ _ h => h) (Or.inl ⟨by rfl, ?_⟩) (by assumption) ?_; rotate_left; (intro w hSw; (try dsimp only at hSw); go_simp); (try with_reducible rfl); (try simp only [Act.put, List.setIfInBounds_toArray, List.set_cons_zero, List.set_cons_succ])
          refine wpAnyH_done (by kernel_rfl) ?_ _
          go_wp2
          go_ret
          exact ⟨by rw [decide_eq_false HS.out]; rfl, HBd.out⟩
      · obtain rfl : k = n := by omega
        have hti : ¬ (k : Int) < (k : Int) := by omega
        have hall := hid (show xs = ys by
          have := HT.out
          rwa [List.take_of_length_le (by have := hxh.out; omega), List.take_of_length_le (by have := hyh.out; omega)] at this)
        go_wp2
        go_ret
        exact ⟨by rw [decide_eq_true hall.out]; rfl, HB.out⟩
  · have h1 : ¬ (n : Int) = m := by omega
    have h2 : ((n : Int) == m) = false := by simpa using h1
    have h3 : decide (xs = ys) = false := decide_eq_false (fun e => by subst e; omega)
    rw [h3]
    clear hx hy h3 hxl hyl
    go_enter Tryd.func18, Tryd.ntmps18
    go_wp2
    go_ret
    exact ⟨rfl, Below.refl _ _⟩
end Go.Proofs.YtheljogmnalbmaaDoor
