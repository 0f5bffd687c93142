/-
  Contract of the reference's Same of two taps. No condition beyond those each theorem names.
-/
import Derived.Test.YtmepbokoopgmiaaDoorHubA
import Derived.Test.YtmepbokoopgmiaaDoorTapD
import Derived.Test.YtmepbokoopgmiaaDoorRegL
namespace Go.Proofs.YtmepbokoopgmiaaDoor
open Go.RowKit
set_option linter.unusedSimpArgs false
set_option linter.unusedVariables false

/-- A bool, nothing written. -/
def GivesB (w : World) (b : Bool) (e : Ending) (w' : World) : Prop := e = .returned (.bool b) ∧ Below w.heap.size w w'
theorem list_eq_of {xs ys : List It} (hl : xs.length = ys.length) (h : ∀ j, j < xs.length → xs[j]? = ys[j]?) : xs = ys := List.ext_getElem? fun j => by
  by_cases hj : j < xs.length
  · exact h j hj
  · rw [List.getElem?_eq_none (by omega), List.getElem?_eq_none (by omega)]

set_option maxRecDepth 100000 in
set_option maxHeartbeats 4000000 in
theorem same_lost (A B : Option Addr) (n m c d : Nat) (la lb : Bool) (xs ys : List It) (hx : ItsOk xs) (hy : ItsOk ys) (w : World) (ra : Rd w 0 101 A n (itsL xs)) (rb : Rd w 0 101 B m (itsL ys)) (h : (la == lb) = false) :
    Calls Tryd.prog 16 #[.agg #[.slice A n c, .bool la], .agg #[.slice B m d, .bool lb]] w (GivesB w false) := by
  have HA := hid ra
  have HB := hid rb
  have HX := hid hx
  have HY := hid hy
  have hla := hid (rd_len hx ra)
  have hlb := hid (rd_len hy rb)
  clear ra rb hx hy
  have tok1 : True := trivial
  go_enter Tryd.func16, Tryd.ntmps16
  go_wp2_with (first
    | (clear tok1; refine wpList_bx rfl 47 _ rfl #[.slice A n c, .bool la] rfl ?_; intro w1 hB1 hb1 hy; have hz1 := hid hy; clear hy)
    | (refine wpList_bx rfl 47 _ rfl #[.slice B m d, .bool lb] rfl ?_; intro w2 hB2 hb2 hy; clear hy; have X0 := hid (below_chain hb1 hb2); have X1 := hid (hB1.belowS hb2); have X2 := hid hB2; obtain ⟨a0, a1, _, _⟩ := two_facts X1.out; obtain ⟨c0, c1, _, _⟩ := two_facts X2.out))
  go_ret
  exact ⟨rfl, X0.out⟩

set_option maxRecDepth 100000 in
set_option maxHeartbeats 4000000 in
theorem same_len (A B : Option Addr) (n m c d : Nat) (la lb : Bool) (xs ys : List It) (hx : ItsOk xs) (hy : ItsOk ys) (w : World) (ra : Rd w 0 101 A n (itsL xs)) (rb : Rd w 0 101 B m (itsL ys)) (h : (la == lb) = true) (hn : ((n : Int) == (m : Int)) = false) :
    Calls Tryd.prog 16 #[.agg #[.slice A n c, .bool la], .agg #[.slice B m d, .bool lb]] w (GivesB w false) := by
  have HA := hid ra
  have HB := hid rb
  have HX := hid hx
  have HY := hid hy
  have hla := hid (rd_len hx ra)
  have hlb := hid (rd_len hy rb)
  clear ra rb hx hy
  have tok1 : True := trivial
  go_enter Tryd.func16, Tryd.ntmps16
  go_wp2_with (first
    | (clear tok1; refine wpList_bx rfl 47 _ rfl #[.slice A n c, .bool la] rfl ?_; intro w1 hB1 hb1 hy; have hz1 := hid hy; clear hy)
    | (refine wpList_bx rfl 47 _ rfl #[.slice B m d, .bool lb] rfl ?_; intro w2 hB2 hb2 hy; clear hy; have X0 := hid (below_chain hb1 hb2); have X1 := hid (hB1.belowS hb2); have X2 := hid hB2; obtain ⟨a0, a1, _, _⟩ := two_facts X1.out; obtain ⟨c0, c1, _, _⟩ := two_facts X2.out))
  go_ret
  exact ⟨rfl, X0.out⟩

set_option maxRecDepth 100000 in
set_option maxHeartbeats 4000000 in
theorem same_all (A B : Option Addr) (n m c d : Nat) (la lb : Bool) (xs ys : List It) (hx : ItsOk xs) (hy : ItsOk ys) (w : World) (ra : Rd w 0 101 A n (itsL xs)) (rb : Rd w 0 101 B m (itsL ys)) (h : (la == lb) = true) (hn : n = m) (h1k : n ≤ 1000) :
    Calls Tryd.prog 16 #[.agg #[.slice A n c, .bool la], .agg #[.slice B m d, .bool lb]] w (GivesB w (decide (xs = ys))) := by
  have HA := hid ra
  have HB := hid rb
  have HX := hid hx
  have HY := hid hy
  have hla := hid (rd_len hx ra)
  have hlb := hid (rd_len hy rb)
  clear ra rb hx hy
  have tok1 : True := trivial
  go_enter Tryd.func16, Tryd.ntmps16
  go_wp2_with (first
    | (clear tok1; refine wpList_bx rfl 47 _ rfl #[.slice A n c, .bool la] rfl ?_; intro w1 hB1 hb1 hy; have hz1 := hid hy; clear hy)
    | (refine wpList_bx rfl 47 _ rfl #[.slice B m d, .bool lb] rfl ?_; intro w2 hB2 hb2 hy; clear hy; have X0 := hid (below_chain hb1 hb2); have X1 := hid (hB1.belowS hb2); have X2 := hid hB2; obtain ⟨a0, a1, _, _⟩ := two_facts X1.out; obtain ⟨c0, c1, _, _⟩ := two_facts X2.out))
  subst hn
  have RA := hid (HA.out.below X0.out)
  have RB := hid (HB.out.below X0.out)
  clear hB1 hb1 hz1 hB2 hb2 a0 a1 c0 c1
  generalize w1.heap.size = gb at *
  have hu36 := Tryd.underlying36
  go_loopw [5] (fun i wx => ∃ k : Nat, k ≤ n ∧ i = .int .i64 k ∧ Below w2.heap.size w2 wx ∧ ∀ j, j < k → xs[j]? = ys[j]?) (fun i _ => n - (intOf i).toNat)
  case atStart => exact ⟨0, Nat.zero_le _, rfl, Below.refl _ _, fun j hj => absurd hj (Nat.not_lt_zero _)⟩
  case round =>
    obtain ⟨k, hk, rfl, hbr, hno⟩ := hrel
    have HN := hid hno
    have HBr := hid hbr
    clear hno hbr
    have Y1 := hid (X1.out.belowS HBr.out)
    have Y2 := hid (X2.out.belowS HBr.out)
    have htz : (0 : Int) ≤ (k : Int) := by omega
    by_cases hlt : k < n
    · have hti : (k : Int) < (n : Int) := by omega
      have hxk : xs[k]? = some (xs[k]'(by have := hla.out; omega)) := List.getElem?_eq_getElem _
      have hyk : ys[k]? = some (ys[k]'(by have := hlb.out; omega)) := List.getElem?_eq_getElem _
      generalize xs[k]'(by have := hla.out; omega) = x at hxk
      generalize ys[k]'(by have := hlb.out; omega) = y at hyk
      have ox := HX.out x (List.mem_of_getElem? hxk)
      have oy := HY.out y (List.mem_of_getElem? hyk)
      obtain ⟨b1, o1, hA1, _, rx⟩ := (RA.out.below HBr.out).item HX.out hxk
      obtain ⟨b2, o2, hA2, _, ry⟩ := (RB.out.below HBr.out).item HY.out hyk
      subst hA1 hA2
      obtain ⟨ad1, had1⟩ : ∃ ad, o1 + k * 101 = ad := ⟨_, rfl⟩
      obtain ⟨ad2, had2⟩ : ∃ ad, o2 + k * 101 = ad := ⟨_, rfl⟩
      rw [had1] at rx
      rw [had2] at ry
      have hszx := it_size x ox
      have hszy := it_size y oy
      have HE : ∀ W, (Op.equalIn 10000 36 (.agg (itL x).toArray) (.agg (itL y).toArray)).run Tryd.prog W = .ok (decide (x = y)) W := fun W => run_eq_it 9995 x y ox oy W
      have HXK := hid hxk
      have HYK := hid hyk
      have hq := hid (rfl : decide (x = y) = decide (x = y))
      generalize hQ : decide (x = y) = q at HE
      have HQ := hid hQ
      clear hxk hyk ox oy hQ hq
      generalize itL x = XL at *
      generalize itL y = YL at *
      obtain ⟨a0, a1, _, _⟩ := two_facts Y1.out
      obtain ⟨c0, c1, _, _⟩ := two_facts Y2.out
      go_wp2_with fail
      have rx' : wr.drew.rangeAt b1 ad1 XL := rx
      have ry' : wr.drew.rangeAt b2 ad2 YL := ry
      refine wp_region_held_drew (S := (fun w' => w'.cell? ⟨w.heap.size, 0, none⟩ = some (.slice (some ⟨b1, o1, none⟩) n c) ∧ w'.cell? ⟨gb, 0, none⟩ = some (.slice (some ⟨b2, o2, none⟩) n d) ∧ w'.rangeAt b1 ad1 XL ∧ w'.rangeAt b2 ad2 YL)) (by kernel_rfl) ⟨a0, c0, rx', ry'⟩ (fun hHeld => ?_)
      refine reg_take (v := ?_) 0 rfl (by kernel_rfl) (by kernel_rfl) (by kernel_rfl) (fun _ _ _ h => h) (Or.inl ⟨by rfl, ?_⟩) (by assumption) ?_; rotate_left; (intro w hSw; (try dsimp only at hSw); go_simp); (try with_reducible rfl); (try simp only [Act.put, List.setIfInBounds_toArray, List.set_cons_zero, List.set_cons_succ])
      refine reg_take (v := ?_) 1 rfl (by kernel_rfl) (by kernel_rfl) (by kernel_rfl) (fun _ _ _ h => h) (Or.inl ⟨by rfl, ?_⟩) (by assumption) ?_; rotate_left; (intro w hSw; (try dsimp only at hSw); go_simp); (try with_reducible rfl); (try simp only [Act.put, List.setIfInBounds_toArray, List.set_cons_zero, List.set_cons_succ])
      refine reg_take (v := ?_) 2 rfl (by kernel_rfl) (by kernel_rfl) (by kernel_rfl) (fun _ _ _ h => h) (Or.inl ⟨by rfl, ?_⟩) (by assumption) ?_; rotate_left; (intro w hSw; (try dsimp only at hSw); go_simp); (try with_reducible rfl); (try simp only [Act.put, List.setIfInBounds_toArray, List.set_cons_zero, List.set_cons_succ])
      refine reg_take (v := ?_) 3 rfl (by kernel_rfl) (by kernel_rfl) (by kernel_rfl) (fun _ _ _ h => h) (Or.inl ⟨by rfl, ?_⟩) (by assumption) ?_; rotate_left; (intro w hSw; (try dsimp only at hSw); go_simp); (try with_reducible rfl); (try simp only [Act.put, List.setIfInBounds_toArray, List.set_cons_zero, List.set_cons_succ])
      refine reg_take 4 rfl (by kernel_rfl) (by kernel_rfl) (by kernel_rfl) (fun _ _ _ h => h) (yieldsIf_load_mid (by rfl) _ _ rfl _ _ rfl _ _ (by intro w hSw; (try dsimp only at hSw); go_split_ands; assumption) (by assumption) (by rfl) (by assumption)) (by assumption) ?_; (try simp only [Act.put, List.setIfInBounds_toArray, List.set_cons_zero, List.set_cons_succ])
      refine reg_take (v := ?_) 5 rfl (by kernel_rfl) (by kernel_rfl) (by kernel_rfl) (fun _ _ _ h => h) (Or.inl ⟨by rfl, ?_⟩) (by assumption) ?_; rotate_left; (intro w hSw; (try dsimp only at hSw); go_simp); (try with_reducible rfl); (try simp only [Act.put, List.setIfInBounds_toArray, List.set_cons_zero, List.set_cons_succ])
      refine reg_take (v := ?_) 6 rfl (by kernel_rfl) (by kernel_rfl) (by kernel_rfl) (fun _ _ _ h => h) (Or.inl ⟨by rfl, ?_⟩) (by assumption) ?_; rotate_left; (intro w hSw; (try dsimp only at hSw); go_simp); (try with_reducible rfl); (try simp only [Act.put, List.setIfInBounds_toArray, List.set_cons_zero, List.set_cons_succ])
      refine reg_take (v := ?_) 7 rfl (by kernel_rfl) (by kernel_rfl) (by kernel_rfl) (fun _ _ _ h => h) (Or.inl ⟨by rfl, ?_⟩) (by assumption) ?_; rotate_left; (intro w hSw; (try dsimp only at hSw); go_simp); (try with_reducible rfl); (try simp only [Act.put, List.setIfInBounds_toArray, List.set_cons_zero, List.set_cons_succ])
      refine reg_take (v := ?_) 8 rfl (by kernel_rfl) (by kernel_rfl) (by kernel_rfl) (fun _ _ _ h => h) (Or.inl ⟨by rfl, ?_⟩) (by assumption) ?_; rotate_left; (intro w hSw; (try dsimp only at hSw); go_simp); (try with_reducible rfl); (try simp only [Act.put, List.setIfInBounds_toArray, List.set_cons_zero, List.set_cons_succ])
      refine reg_take 9 rfl (by kernel_rfl) (by kernel_rfl) (by kernel_rfl) (fun _ _ _ h => h) (yieldsIf_load_mid (by rfl) _ _ rfl _ _ rfl _ _ (by intro w hSw; (try dsimp only at hSw); go_split_ands; assumption) (by assumption) (by rfl) (by assumption)) (by assumption) ?_; (try simp only [Act.put, List.setIfInBounds_toArray, List.set_cons_zero, List.set_cons_succ])
      refine reg_take (v := ?_) 10 rfl (by kernel_rfl) (by kernel_rfl) (by kernel_rfl) (fun _ _ _ h => h) (Or.inl ⟨by rfl, ?_⟩) (by assumption) ?_; rotate_left; (intro w hSw; (try dsimp only at hSw); go_simp); (try with_reducible rfl); (try simp only [Act.put, List.setIfInBounds_toArray, List.set_cons_zero, List.set_cons_succ])
      refine wpAnyH_done (by kernel_rfl) ?_ _
      cases q
      · go_wp2_with fail
        go_ret
        refine ⟨?_, (X0.out.trans (HBr.out.mono X0.out.size)).trans ((below_self_drew wr).mono (by have := HBr.out.size; have := X0.out.size; omega))⟩
        have hne : xs ≠ ys := fun e => by
          have h1 := HXK.out
          rw [e, HYK.out] at h1
          have := HQ.out
          rw [Option.some.inj h1] at this
          simp at this
        rw [decide_eq_false hne]
        rfl
      · go_wp2_with fail
        refine ⟨⟨k + 1, by omega, by go_num, HBr.out.trans ((below_self_drew wr).mono HBr.out.size), fun j hj => ?_⟩, by simp [intOf]; omega⟩
        rcases Nat.lt_succ_iff_lt_or_eq.1 hj with h1 | rfl
        · exact HN.out j h1
        · rw [HXK.out, HYK.out, of_decide_eq_true HQ.out]
    · obtain rfl : k = n := by omega
      have hti : ¬ (k : Int) < (k : Int) := by omega
      obtain ⟨a0, a1, _, _⟩ := two_facts Y1.out
      obtain ⟨c0, c1, _, _⟩ := two_facts Y2.out
      go_wp2
      go_ret
      refine ⟨?_, X0.out.trans (HBr.out.mono X0.out.size)⟩
      rw [decide_eq_true (list_eq_of (by have := hla.out; have := hlb.out; omega) (fun j hj => HN.out j (by have := hla.out; omega)))]
      rfl
theorem same_any (A B : Option Addr) (n m c d : Nat) (la lb : Bool) (xs ys : List It) (hx : ItsOk xs) (hy : ItsOk ys) (w : World) (ra : Rd w 0 101 A n (itsL xs)) (rb : Rd w 0 101 B m (itsL ys)) (h1k : n ≤ 1000) :
    Calls Tryd.prog 16 #[.agg #[.slice A n c, .bool la], .agg #[.slice B m d, .bool lb]] w (GivesB w (decide ((xs, la) = (ys, lb)))) := by
  have hla := rd_len hx ra
  have hlb := rd_len hy rb
  cases h : (la == lb) with
  | false =>
    have : decide ((xs, la) = (ys, lb)) = false := decide_eq_false fun e => by
      have := (Prod.mk.inj e).2
      rw [this] at h
      simp at h
    rw [this]
    exact same_lost A B n m c d la lb xs ys hx hy w ra rb h
  | true =>
    have he : la = lb := by simpa using h
    by_cases hn : n = m
    · have : decide ((xs, la) = (ys, lb)) = decide (xs = ys) := by rw [he]; congr 1; simp
      rw [this]
      exact same_all A B n m c d la lb xs ys hx hy w ra rb h hn h1k
    · have : decide ((xs, la) = (ys, lb)) = false := decide_eq_false fun e => hn (by
        have := (Prod.mk.inj e).1
        rw [this] at hla
        omega)
      rw [this]
      exact same_len A B n m c d la lb xs ys hx hy w ra rb h (by rw [beq_eq_false_iff_ne]; omega)
end Go.Proofs.YtmepbokoopgmiaaDoor
