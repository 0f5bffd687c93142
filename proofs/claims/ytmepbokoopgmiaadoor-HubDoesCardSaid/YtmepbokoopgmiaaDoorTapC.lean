/-
  Contracts of tap's Check, Twin, with. No condition beyond those each theorem names.
-/
import Derived.Test.YtmepbokoopgmiaaDoorTapB
import Derived.Test.YtmepbokoopgmiaaDoorChg
namespace Go.Proofs.YtmepbokoopgmiaaDoor
open Go.RowKit

theorem check_any (A : Option Addr) (n c : Nat) (lost : Bool) (xs : List It) (ho : ItsOk xs) (w : World) (hr : Rd w 0 101 A n (itsL xs)) (hG : GOk w) :
    Calls Tryd.prog 34 #[.agg #[.slice A n c, .bool lost]] w fun e w' => e = .returned (.int .i64 (errOf (itsMay xs))) ∧ Below w.heap.size w w' := by
  have hl : xs.length = n := by have := hr.1; rw [itsL_len xs ho] at this; omega
  by_cases h : 64 < n
  · have : itsMay xs = false := by unfold itsMay; rw [decide_eq_false (by omega)]; rfl
    rw [this]
    exact check_big A n c lost w h
  · exact check_small A n c 0 lost xs ho w hr (by omega) hG

/-- A slice of items of the call's own. -/
def GivesI (w : World) (xs : List It) (e : Ending) (w' : World) : Prop := ∃ D c, e = .returned (.slice D xs.length c) ∧ Own w' w.heap.size 36 101 D xs.length c (itsL xs) ∧ Below w.heap.size w w'
theorem own_len {w : World} {lo n c : Nat} {e : TypeId} {D : Option Addr} {xs : List It} (ho : ItsOk xs) (h : Own w lo e 101 D n c (itsL xs)) : xs.length = n := by
  have := h.len
  rw [itsL_len xs ho] at this
  omega
theorem rd_len {w : World} {lo n : Nat} {D : Option Addr} {xs : List It} (ho : ItsOk xs) (h : Rd w lo 101 D n (itsL xs)) : xs.length = n := by
  have := h.1
  rw [itsL_len xs ho] at this
  omega
theorem gives_i {w w' : World} {xs : List It} (hx : ItsOk xs) {D : Option Addr} {n c : Nat} (ho : Own w' w.heap.size 36 101 D n c (itsL xs)) (hb : Below w.heap.size w w') : GivesI w xs (.returned (.slice D n c)) w' := by
  have hn := own_len hx ho
  subst hn
  exact ⟨_, _, rfl, ho, hb⟩
theorem itsL_one (xs : List It) : ∀ u ∈ itsL xs, u.oneCell' = true := by
  intro u hu
  simp only [itsL, List.mem_flatMap] at hu
  obtain ⟨x, _, hx⟩ := hu
  exact itL_one x u hx
theorem itsL_app (xs ys : List It) : itsL (xs ++ ys) = itsL xs ++ itsL ys := by simp [itsL]
theorem item_info : (Tryd.prog.info? 36).map (fun i => (i.zero, i.size, i.bytes)) = some (some (.agg zeroI), 101, 136) := by kernel_rfl
theorem zeroI_cells : (Value.agg zeroI).cells.size = 101 := by rfl

set_option maxHeartbeats 1000000 in
theorem clone_any (A : Option Addr) (n c : Nat) (xs : List It) (ho : ItsOk xs) (w : World) (hr : Rd w 0 101 A n (itsL xs)) (hn : n ≤ 1000) :
    Calls Tryd.prog 54 #[.slice A n c] w (GivesI w xs) := by
  obtain ⟨i0, hi0, hz0, hz1, hz2⟩ := info_parts item_info
  have hE := fun W => Lib.run_eql_slice_nil (P := Tryd.prog) W 45 36 A n c 0 0 Tryd.underlying45
  have hl := rd_len ho hr
  cases A with
  | none =>
    obtain rfl : n = 0 := by
      rcases Nat.eq_zero_or_pos n with h | h
      · exact h
      · obtain ⟨b, o, e, _⟩ := hr.2 (by omega)
        cases e
    obtain rfl : xs = [] := List.eq_nil_of_length_eq_zero hl
    go_enter Tryd.func54, Tryd.ntmps54
    go_wp2
    go_ret
    exact gives_i (xs := []) ho (Own.nil _ _ _ _ _) (Below.refl _ _)
  | some a =>
    have HO := hid ho
    have hone := hid (itsL_one xs)
    clear ho
    generalize hL : itsL xs = L at *
    have HL := hid hL
    clear hL
    go_enter Tryd.func54, Tryd.ntmps54
    go_wp2_with (at_builtin; refine wpList_app _ rfl _ _ _ rfl w.heap.size 36 i0 _ 101 136 Tryd.underlying45 hi0 hz0 hz1 hz2 zeroI_cells (by omega) _ 0 0 [] rfl (Own.nil _ _ _ _ _) (some a) n c 0 L rfl (hr.alloc _) hone.out (by simp only [maxLen]; omega) (by omega) (by simp) ?_; intro D' c' w1 hown hg hat)
    go_ret
    simp only [Nat.zero_add, List.nil_append] at hown
    rw [← HL.out] at hown
    exact gives_i HO.out hown (((Below.refl _ _).alloc (Nat.le_refl _) _).grown hg (by simp) (by simp [rowOf]))

/-- A tap whose items are the call's own. -/
def GivesT (w : World) (xs : List It) (lost : Bool) (e : Ending) (w' : World) : Prop := ∃ D c, e = .returned (.agg #[.slice D xs.length c, .bool lost]) ∧ Own w' w.heap.size 36 101 D xs.length c (itsL xs) ∧ Below w.heap.size w w'

set_option maxHeartbeats 1000000 in
theorem twin_any (A : Option Addr) (n c : Nat) (lost : Bool) (xs : List It) (ho : ItsOk xs) (w : World) (hr : Rd w 0 101 A n (itsL xs)) (hn : n ≤ 1000) :
    Calls Tryd.prog 47 #[.agg #[.slice A n c, .bool lost]] w (GivesT w xs lost) := by
  have hb2 := (below_alloc1 w (.cells #[.slice A n c, .bool lost] 47)).alloc (by simp) (.cells #[.slice none 0 0, .bool false] 47)
  have B1 := (Blk.new w 47 #[.slice A n c, .bool lost]).alloc (.cells #[.slice none 0 0, .bool false] 47)
  have B2 := Blk.new (w.alloc (.cells #[.slice A n c, .bool lost] 47)) 47 #[.slice none 0 0, .bool false]
  simp only [World.size_alloc] at B2
  have hC := hid (clone_any A n c xs ho _ (hr.below hb2) hn)
  have H1 := hid B1
  have H2 := hid B2
  have HS := hid hb2.size
  clear hr B1 B2 hb2 ho
  go_enter Tryd.func47, Tryd.ntmps47
  go_wp2_with ((with_reducible refine (hC.out).mono ?_); rintro e w2 ⟨D, d, rfl, hO, hb2⟩; obtain ⟨a0, a1, a2, a3⟩ := two_facts (H1.out.belowS hb2); obtain ⟨c0, c1, c2, c3⟩ := two_facts (H2.out.belowS hb2))
  have hs2 := hb2.size
  simp only [World.size_alloc] at hs2
  have B2 := (((H2.out.belowS hb2).far (b := w.heap.size) (i := 0) (by omega) (.slice D xs.length d)).set_ 0 (.slice D xs.length d)).set_ 1 (.bool lost)
  have hCf := (((Chg.refl w2 (fun b => b = w.heap.size ∨ b = w.heap.size + 1)).setCell (i := 0) (.slice D xs.length d) (.inl (.inl rfl))).setCell (i := 0) (.slice D xs.length d) (.inl (.inr rfl))).setCell (i := 1) (.bool lost) (.inl (.inr rfl))
  have hO' : Own w2 (w.heap.size + 1 + 1) 36 101 D xs.length d (itsL xs) := by
    have := hO
    simp only [World.size_alloc] at this
    exact this
  have hOf := (hO'.chg hCf (fun b hb e => by omega)).low (lo' := w.heap.size) (by omega)
  have hb02 := below_al (below_al hb2)
  have hbf := hb02.trans (hCf.below hb02.size (fun b e => by omega))
  generalize ((w2.setCell ⟨w.heap.size, 0, none⟩ (.slice D xs.length d)).setCell ⟨w.heap.size + 1, 0, none⟩ (.slice D xs.length d)).setCell ⟨w.heap.size + 1, 1, none⟩ (.bool lost) = wf at *
  have g0 := B2.cellv (i := 0) (v := .slice D xs.length d) rfl
  have g1 := B2.cellv (i := 1) (v := .bool lost) rfl
  exact bodyPost_ret (v := .agg #[.slice D xs.length d, .bool lost]) (by simp [results, Tryd.f47, go_sem, g0, g1]) rfl ⟨D, d, rfl, hOf, hbf⟩

set_option maxHeartbeats 1000000 in
theorem with_any (A : Option Addr) (n c : Nat) (lost : Bool) (xs : List It) (ho : ItsOk xs) (B : Option Addr) (m d : Nat) (ys : List It) (hy : ItsOk ys) (w : World) (hr : Rd w 0 101 A n (itsL xs)) (hs : Rd w 0 101 B m (itsL ys)) (hn : n ≤ 1000) (hm : m ≤ 1000) :
    Calls Tryd.prog 49 #[.agg #[.slice A n c, .bool lost], .slice B m d] w (GivesT w (xs ++ ys) false) := by
  obtain ⟨i0, hi0, hz0, hz1, hz2⟩ := info_parts item_info
  have hb2 := (below_alloc1 w (.cells #[.slice A n c, .bool lost] 47)).alloc (by simp) (.cells #[.slice none 0 0, .bool false] 47)
  have B2 := Blk.new (w.alloc (.cells #[.slice A n c, .bool lost] 47)) 47 #[.slice none 0 0, .bool false]
  simp only [World.size_alloc] at B2
  have hC := hid (clone_any A n c xs ho _ (hr.below hb2) hn)
  have H2 := hid B2
  have hl := rd_len ho hr
  have hml := rd_len hy hs
  have HY := hid (hs.below hb2)
  have hone := hid (itsL_one ys)
  have HO := hid (fun x hx => (List.mem_append.1 hx).elim (ho x) (hy x) : ItsOk (xs ++ ys))
  have HA := hid (itsL_app xs ys)
  have HXl := hid hl
  have HYl := hid hml
  clear hr hs B2 hb2 ho hy hl hml
  go_enter Tryd.func49, Tryd.ntmps49
  go_wp2_with (first
    | ((with_reducible refine (hC.out).mono ?_); rintro e w2 ⟨D, k, rfl, hO, hb2⟩)
    | (at_builtin; refine wpList_app _ rfl _ _ _ rfl _ 36 i0 _ 101 136 Tryd.underlying45 hi0 hz0 hz1 hz2 zeroI_cells (by omega) D xs.length k _ rfl hO B m d 0 _ rfl (HY.out.below hb2) hone.out (by have := HXl.out; simp only [maxLen]; omega) (by have := HXl.out; omega) hb2.size ?_; intro D' c' w3 hown hg hat; have hb3 := hb2.grown hg hb2.size (fun g e => (hO.row_lt g e).1); obtain ⟨a0, a1, a2, a3⟩ := two_facts (H2.out.belowS hb3)))
  have hs2 := hb2.size
  simp only [World.size_alloc] at hs2
  rw [← HA.out] at hown
  have hown' : Own w3 (w.heap.size + 1 + 1) 36 101 D' (xs.length + m) c' (itsL (xs ++ ys)) := by
    have := hown
    simp only [World.size_alloc] at this
    exact this
  have hnl : xs.length + m = (xs ++ ys).length := by rw [List.length_append, HYl.out]
  rw [hnl] at hown' ⊢
  have hb03 := below_al (below_al hb3)
  have B2 := (H2.out.belowS hb3).both (c := .slice D' (xs ++ ys).length c') (d := .bool false)
  have hCf := chg_both w3 (w.heap.size + 1) (.slice D' (xs ++ ys).length c') (.bool false)
  have hOf := (hown'.chg hCf (fun b hb e => by omega)).low (lo' := w.heap.size) (by omega)
  have hbf := hb03.trans (hCf.below hb03.size (fun b e => by omega))
  generalize (w3.setCell ⟨w.heap.size + 1, 0, none⟩ (.slice D' (xs ++ ys).length c')).setCell ⟨w.heap.size + 1, 1, none⟩ (.bool false) = wf at *
  obtain ⟨g0, g1, _, _⟩ := two_facts B2
  exact bodyPost_ret (v := .agg #[.slice D' (xs ++ ys).length c', .bool false]) (by simp [results, Tryd.f49, go_sem, g0, g1]) rfl ⟨D', c', rfl, hOf, hbf⟩
end Go.Proofs.YtmepbokoopgmiaaDoor
