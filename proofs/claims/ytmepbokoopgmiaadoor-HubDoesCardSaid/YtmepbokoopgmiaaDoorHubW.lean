/-
  Contracts of slices.Equal at items, tap.Same, hub.Same. No condition beyond those each theorem names.
-/
import Derived.Test.YtmepbokoopgmiaaDoorHubL
import Derived.Test.YtmepbokoopgmiaaDoorHubJ
namespace Go.Proofs.YtmepbokoopgmiaaDoor
open Go.RowKit
set_option linter.unusedSimpArgs false
set_option linter.unusedVariables false


set_option maxRecDepth 100000 in
set_option maxHeartbeats 4000000 in
theorem equal_len (A B : Option Addr) (n m c d : Nat) (xs ys : List It) (hx : ItsOk xs) (hy : ItsOk ys) (w : World) (ra : Rd w 0 101 A n (itsL xs)) (rb : Rd w 0 101 B m (itsL ys)) (hn : ((n : Int) == (m : Int)) = false) :
    Calls Tryd.prog 53 #[.slice A n c, .slice B m d] w (GivesB w false) := by
  have HA := hid ra
  have HB := hid rb
  have HX := hid hx
  have HY := hid hy
  have hla := hid (rd_len hx ra)
  have hlb := hid (rd_len hy rb)
  clear ra rb hx hy
  go_enter Tryd.func53, Tryd.ntmps53
  go_wp2_with fail
  go_ret
  exact ⟨rfl, Below.refl _ _⟩

set_option maxRecDepth 100000 in
set_option maxHeartbeats 4000000 in
theorem equal_all (A B : Option Addr) (n m c d : Nat) (xs ys : List It) (hx : ItsOk xs) (hy : ItsOk ys) (w : World) (ra : Rd w 0 101 A n (itsL xs)) (rb : Rd w 0 101 B m (itsL ys)) (hn : n = m) (h1k : n ≤ 1000) :
    Calls Tryd.prog 53 #[.slice A n c, .slice B m d] w (GivesB w (decide (xs = ys))) := by
  have HA := hid ra
  have HB := hid rb
  have HX := hid hx
  have HY := hid hy
  have hla := hid (rd_len hx ra)
  have hlb := hid (rd_len hy rb)
  clear ra rb hx hy
  go_enter Tryd.func53, Tryd.ntmps53
  go_wp2_with fail
  subst hn
  have hu36 := Tryd.underlying36
  go_loopw [13] (fun i wx => ∃ k : Nat, k ≤ n ∧ i = .int .i64 k ∧ Below w.heap.size w wx ∧ ∀ j, j < k → xs[j]? = ys[j]?) (fun i _ => n - (intOf i).toNat)
  case atStart => exact ⟨0, Nat.zero_le _, rfl, Below.refl _ _, fun j hj => absurd hj (Nat.not_lt_zero _)⟩
  case round =>
    obtain ⟨k, hk, rfl, hbr, hno⟩ := hrel
    have HN := hid hno
    have HBr := hid hbr
    clear hno hbr
    have htz : (0 : Int) ≤ (k : Int) := by omega
    by_cases hlt : k < n
    · have hti : (k : Int) < (n : Int) := by omega
      have hxk : xs[k]? = some (xs[k]'(by have := hla.out; omega)) := List.getElem?_eq_getElem _
      have hyk : ys[k]? = some (ys[k]'(by have := hlb.out; omega)) := List.getElem?_eq_getElem _
      generalize xs[k]'(by have := hla.out; omega) = x at hxk
      generalize ys[k]'(by have := hlb.out; omega) = y at hyk
      have ox := HX.out x (List.mem_of_getElem? hxk)
      have oy := HY.out y (List.mem_of_getElem? hyk)
      obtain ⟨b1, o1, hA1, _, rx⟩ := (HA.out.below HBr.out).item HX.out hxk
      obtain ⟨b2, o2, hA2, _, ry⟩ := (HB.out.below HBr.out).item HY.out hyk
      subst hA1 hA2
      obtain ⟨ad1, had1⟩ : ∃ ad, o1 + k * 101 = ad := ⟨_, rfl⟩
      obtain ⟨ad2, had2⟩ : ∃ ad, o2 + k * 101 = ad := ⟨_, rfl⟩
      rw [had1] at rx
      rw [had2] at ry
      have hszx := it_size x ox
      have hszy := it_size y oy
      have HE : ∀ W, (Op.equalIn 10000 36 (.agg (itL x).toArray) (.agg (itL y).toArray)).run Tryd.prog W = .ok (decide (x = y)) W := fun W => run_eq_it 9995 x y ox oy W
      have HXK := hid hxk
      have HYK := hid hyk
      generalize hQ : decide (x = y) = q at HE
      have HQ := hid hQ
      clear hxk hyk ox oy hQ
      generalize itL x = XL at *
      generalize itL y = YL at *
      go_wp2_with fail
      have rx' : wr.drew.rangeAt b1 ad1 XL := rx
      have ry' : wr.drew.rangeAt b2 ad2 YL := ry
      refine wp_region_held_drew (S := (fun w' => w'.rangeAt b1 ad1 XL ∧ w'.rangeAt b2 ad2 YL)) (by kernel_rfl) ⟨rx', ry'⟩ (fun hHeld => ?_)
      refine reg_take (v := ?_) 0 rfl (by kernel_rfl) (by kernel_rfl) (by kernel_rfl) (fun _ _ _ h => h) (Or.inl ⟨by rfl, ?_⟩) (by assumption) ?_; rotate_left; (intro w hSw; (try dsimp only at hSw); go_simp); (try with_reducible rfl); (try simp only [Act.put, List.setIfInBounds_toArray, List.set_cons_zero, List.set_cons_succ])
      refine reg_take (v := ?_) 1 rfl (by kernel_rfl) (by kernel_rfl) (by kernel_rfl) (fun _ _ _ h => h) (Or.inl ⟨by rfl, ?_⟩) (by assumption) ?_; rotate_left; (intro w hSw; (try dsimp only at hSw); go_simp); (try with_reducible rfl); (try simp only [Act.put, List.setIfInBounds_toArray, List.set_cons_zero, List.set_cons_succ])
      refine reg_take (v := ?_) 2 rfl (by kernel_rfl) (by kernel_rfl) (by kernel_rfl) (fun _ _ _ h => h) (Or.inl ⟨by rfl, ?_⟩) (by assumption) ?_; rotate_left; (intro w hSw; (try dsimp only at hSw); go_simp); (try with_reducible rfl); (try simp only [Act.put, List.setIfInBounds_toArray, List.set_cons_zero, List.set_cons_succ])
      refine reg_take 3 rfl (by kernel_rfl) (by kernel_rfl) (by kernel_rfl) (fun _ _ _ h => h) (yieldsIf_load_mid (by rfl) _ _ rfl _ _ rfl _ _ (by intro w hSw; (try dsimp only at hSw); go_split_ands; assumption) (by assumption) (by rfl) (by assumption)) (by assumption) ?_; (try simp only [Act.put, List.setIfInBounds_toArray, List.set_cons_zero, List.set_cons_succ])
      refine reg_take (v := ?_) 4 rfl (by kernel_rfl) (by kernel_rfl) (by kernel_rfl) (fun _ _ _ h => h) (Or.inl ⟨by rfl, ?_⟩) (by assumption) ?_; rotate_left; (intro w hSw; (try dsimp only at hSw); go_simp); (try with_reducible rfl); (try simp only [Act.put, List.setIfInBounds_toArray, List.set_cons_zero, List.set_cons_succ])
      refine reg_take (v := ?_) 5 rfl (by kernel_rfl) (by kernel_rfl) (by kernel_rfl) (fun _ _ _ h => h) (Or.inl ⟨by rfl, ?_⟩) (by assumption) ?_; rotate_left; (intro w hSw; (try dsimp only at hSw); go_simp); (try with_reducible rfl); (try simp only [Act.put, List.setIfInBounds_toArray, List.set_cons_zero, List.set_cons_succ])
      refine reg_take (v := ?_) 6 rfl (by kernel_rfl) (by kernel_rfl) (by kernel_rfl) (fun _ _ _ h => h) (Or.inl ⟨by rfl, ?_⟩) (by assumption) ?_; rotate_left; (intro w hSw; (try dsimp only at hSw); go_simp); (try with_reducible rfl); (try simp only [Act.put, List.setIfInBounds_toArray, List.set_cons_zero, List.set_cons_succ])
      refine reg_take 7 rfl (by kernel_rfl) (by kernel_rfl) (by kernel_rfl) (fun _ _ _ h => h) (yieldsIf_load_mid (by rfl) _ _ rfl _ _ rfl _ _ (by intro w hSw; (try dsimp only at hSw); go_split_ands; assumption) (by assumption) (by rfl) (by assumption)) (by assumption) ?_; (try simp only [Act.put, List.setIfInBounds_toArray, List.set_cons_zero, List.set_cons_succ])
      refine reg_take (v := ?_) 8 rfl (by kernel_rfl) (by kernel_rfl) (by kernel_rfl) (fun _ _ _ h => h) (Or.inl ⟨by rfl, ?_⟩) (by assumption) ?_; rotate_left; (intro w hSw; (try dsimp only at hSw); go_simp); (try with_reducible rfl); (try simp only [Act.put, List.setIfInBounds_toArray, List.set_cons_zero, List.set_cons_succ])
      refine wpAnyH_done (by kernel_rfl) ?_ _
      cases q
      · go_wp2_with fail
        go_ret
        refine ⟨?_, HBr.out.trans ((below_self_drew wr).mono HBr.out.size)⟩
        have hne : xs ≠ ys := fun e => by
          have h1 := HXK.out
          rw [e, HYK.out] at h1
          have := HQ.out
          rw [Option.some.inj h1] at this
          simp at this
        rw [decide_eq_false hne]
        rfl
      · go_wp2_with fail
        refine ⟨⟨k + 1, by omega, by go_num, HBr.out.trans ((below_self_drew wr).mono HBr.out.size), fun j hj => ?_⟩, by simp [intOf]; omega⟩
        rcases Nat.lt_succ_iff_lt_or_eq.1 hj with h1 | rfl
        · exact HN.out j h1
        · rw [HXK.out, HYK.out, of_decide_eq_true HQ.out]
    · obtain rfl : k = n := by omega
      have hti : ¬ (k : Int) < (k : Int) := by omega
      go_wp2
      go_ret
      refine ⟨?_, HBr.out⟩
      rw [decide_eq_true (list_eq_of (by have := hla.out; have := hlb.out; omega) (fun j hj => HN.out j (by have := hla.out; omega)))]
      rfl
theorem equal_any (A B : Option Addr) (n m c d : Nat) (xs ys : List It) (hx : ItsOk xs) (hy : ItsOk ys) (w : World) (ra : Rd w 0 101 A n (itsL xs)) (rb : Rd w 0 101 B m (itsL ys)) (h1k : n ≤ 1000) :
    Calls Tryd.prog 53 #[.slice A n c, .slice B m d] w (GivesB w (decide (xs = ys))) := by
  have hla := rd_len hx ra
  have hlb := rd_len hy rb
  by_cases hn : n = m
  · exact equal_all A B n m c d xs ys hx hy w ra rb hn h1k
  · rw [decide_eq_false fun e => hn (by rw [e] at hla; omega)]
    exact equal_len A B n m c d xs ys hx hy w ra rb (by rw [beq_eq_false_iff_ne]; omega)

set_option maxRecDepth 100000 in
set_option maxHeartbeats 4000000 in
theorem tsame_lost (A B : Option Addr) (n m c d : Nat) (la lb : Bool) (xs ys : List It) (hx : ItsOk xs) (hy : ItsOk ys) (w : World) (ra : Rd w 0 101 A n (itsL xs)) (rb : Rd w 0 101 B m (itsL ys)) (h1k : n ≤ 1000) (h : (la == lb) = false) :
    Calls Tryd.prog 45 #[.agg #[.slice A n c, .bool la], .agg #[.slice B m d, .bool lb]] w (GivesB w false) := by
  have hE := hid (fun W (h : Rd W 0 101 A n (itsL xs)) (k : Rd W 0 101 B m (itsL ys)) => equal_any A B n m c d xs ys hx hy W h k h1k)
  have HA := hid ra
  have HB := hid rb
  clear ra rb hx hy
  have tok1 : True := trivial
  go_enter Tryd.func45, Tryd.ntmps45
  go_wp2_with (first
    | (clear tok1; refine wpList_bx rfl 47 _ rfl #[.slice A n c, .bool la] rfl ?_; intro w1 hB1 hb1 hy; have hz1 := hid hy; clear hy)
    | (refine wpList_bx rfl 47 _ rfl #[.slice B m d, .bool lb] rfl ?_; intro w2 hB2 hb2 hy; clear hy; have X0 := hid (below_chain hb1 hb2); obtain ⟨a0, a1, _, _⟩ := two_facts (hB1.belowS hb2); obtain ⟨c0, c1, _, _⟩ := two_facts hB2))
  go_ret
  exact ⟨rfl, X0.out⟩

set_option maxRecDepth 100000 in
set_option maxHeartbeats 4000000 in
theorem tsame_all (A B : Option Addr) (n m c d : Nat) (la lb : Bool) (xs ys : List It) (hx : ItsOk xs) (hy : ItsOk ys) (w : World) (ra : Rd w 0 101 A n (itsL xs)) (rb : Rd w 0 101 B m (itsL ys)) (h1k : n ≤ 1000) (h : (la == lb) = true) :
    Calls Tryd.prog 45 #[.agg #[.slice A n c, .bool la], .agg #[.slice B m d, .bool lb]] w (GivesB w (decide (xs = ys))) := by
  have hE := hid (fun W (h : Rd W 0 101 A n (itsL xs)) (k : Rd W 0 101 B m (itsL ys)) => equal_any A B n m c d xs ys hx hy W h k h1k)
  have HA := hid ra
  have HB := hid rb
  clear ra rb hx hy
  have tok1 : True := trivial
  go_enter Tryd.func45, Tryd.ntmps45
  go_wp2_with (first
    | (clear tok1; refine wpList_bx rfl 47 _ rfl #[.slice A n c, .bool la] rfl ?_; intro w1 hB1 hb1 hy; have hz1 := hid hy; clear hy)
    | (refine wpList_bx rfl 47 _ rfl #[.slice B m d, .bool lb] rfl ?_; intro w2 hB2 hb2 hy; clear hy; have X0 := hid (below_chain hb1 hb2); obtain ⟨a0, a1, _, _⟩ := two_facts (hB1.belowS hb2); obtain ⟨c0, c1, _, _⟩ := two_facts hB2)
    | ((with_reducible refine (hE.out _ (HA.out.below X0.out) (HB.out.below X0.out)).mono ?_); rintro e w3 ⟨rfl, hb3⟩))
  go_ret
  exact ⟨rfl, below_chain X0.out hb3⟩
theorem tsame_any (A B : Option Addr) (n m c d : Nat) (la lb : Bool) (xs ys : List It) (hx : ItsOk xs) (hy : ItsOk ys) (w : World) (ra : Rd w 0 101 A n (itsL xs)) (rb : Rd w 0 101 B m (itsL ys)) (h1k : n ≤ 1000) :
    Calls Tryd.prog 45 #[.agg #[.slice A n c, .bool la], .agg #[.slice B m d, .bool lb]] w (GivesB w (decide ((xs, la) = (ys, lb)))) := by
  cases h : (la == lb) with
  | false =>
    rw [decide_eq_false fun e => by have := (Prod.mk.inj e).2; rw [this] at h; simp at h]
    exact tsame_lost A B n m c d la lb xs ys hx hy w ra rb h1k h
  | true =>
    have he : la = lb := by simpa using h
    have : decide ((xs, la) = (ys, lb)) = decide (xs = ys) := by rw [he]; congr 1; simp
    rw [this]
    exact tsame_all A B n m c d la lb xs ys hx hy w ra rb h1k h
end Go.Proofs.YtmepbokoopgmiaaDoor
