/-
  A hub that came in, opened: its number, the row of its subscribers, their items. An event that came in. No condition.
-/
import Derived.Test.YtmepbokoopgmiaaDoorHubLaid
import Derived.Test.YtmepbokoopgmiaaDoorHubA
import Derived.Lib.SmallJoins
import Derived.Deep.Slices
namespace Go.Proofs.YtmepbokoopgmiaaDoor
open Go.ChangeShapes Go.WideShapes Go.ChangeAt Go.RowKit
set_option linter.unusedVariables false

section
variable {H : Type} {enc : TypeId × Value → H} {w : World} {base : Nat} {spare : Nat → Bool} {held : Bool} {fuel : Nat} {cs : List Value} {x : DataW H × List MemPlace}
/-- Elements that lie one behind the other. -/
theorem rd_rows {α : Type} {sz n : Nat} {a : Addr} (hsz : 0 < sz) (f : α → List Value) (ys : Nat → α) (hlen : ∀ i, i < n → (f (ys i)).length = sz) (h : ∀ i, i < n → w.cells? base (a.add (i * sz)) sz = some (f (ys i))) : Rd w 0 sz (some a) n (((List.range n).map ys).flatMap f) := by
  have key : ∀ m, m ≤ n → (((List.range m).map ys).flatMap f).length = m * sz ∧ ∀ i j, i < m → j < sz → (((List.range m).map ys).flatMap f)[i * sz + j]? = (f (ys i))[j]? := by
    intro m
    induction m with
    | zero => intro _; exact ⟨by simp, fun i j hi => absurd hi (Nat.not_lt_zero _)⟩
    | succ m ih =>
      intro hm
      obtain ⟨h1, h2⟩ := ih (by omega)
      have e : ((List.range (m + 1)).map ys).flatMap f = ((List.range m).map ys).flatMap f ++ f (ys m) := by
        rw [List.range_succ, List.map_append, List.flatMap_append]
        simp
      rw [e]
      refine ⟨by rw [List.length_append, h1, hlen m (by omega), Nat.succ_mul], fun i j hi hj => ?_⟩
      rcases Nat.lt_succ_iff_lt_or_eq.1 hi with hi | rfl
      · rw [List.getElem?_append_left, h2 i j hi hj]
        rw [h1]
        have : (i + 1) * sz ≤ m * sz := Nat.mul_le_mul_right _ hi
        rw [Nat.succ_mul] at this
        omega
      · rw [List.getElem?_append_right (by omega), h1]
        congr 1
        omega
  obtain ⟨k1, k2⟩ := key n (Nat.le_refl _)
  refine ⟨k1, fun hn => ?_⟩
  have hn0 : 0 < n := Nat.pos_of_mul_pos_right hn
  have h0 := (World.cells?_some (h 0 hn0)).2.2 0 (by omega)
  obtain ⟨b, o, spot⟩ := a
  have hs : spot = none := by
    have := List.getElem?_eq_getElem (l := f (ys 0)) (i := 0) (by rw [hlen 0 hn0]; exact hsz)
    rw [this] at h0
    simpa [Addr.add] using World.cell?_spot h0
  subst hs
  refine ⟨b, o, rfl, Nat.zero_le _, fun j hj => ?_⟩
  have hi : j / sz < n := Nat.div_lt_of_lt_mul (by rw [Nat.mul_comm]; exact hj)
  have hj' : j % sz < sz := Nat.mod_lt _ hsz
  have hc := (World.cells?_some (h (j / sz) hi)).2.2 (j % sz) hj'
  have e : j / sz * sz + j % sz = j := by rw [Nat.mul_comm]; exact Nat.div_add_mod j sz
  rw [add_lit, add_lit, Nat.add_assoc, e] at hc
  rw [hc, ← k2 (j / sz) (j % sz) hi hj', e]

/-- A slice of items that came in. -/
theorem open_items (h : DataW.trod enc Tryd.prog w base spare held fuel 45 cs = some x) : ∃ (A : Option Addr) (n c : Nat) (xs : List It), cs = [.slice A n c] ∧ ItsOk xs ∧ Rd w 0 101 A n (itsL xs) := by
  have c1 : Tryd.prog.cellsOf 36 = 101 := by kernel_rfl
  rcases Go.Deep.open_slice Tryd.underlying45 h with ⟨rfl, _⟩ | ⟨a, len, cap, m, n, D, Pl, rfl, hb, hl, hm, hmm, _, hx⟩
  · exact ⟨none, 0, 0, [], rfl, itsOk_nil, Rd.nil _ _ _ _⟩
  · rw [c1] at hx
    have hlm : len ≤ m := by rw [hmm]; split <;> omega
    obtain ⟨V, hV⟩ := Go.Deep.choose_lt (α := It) (n := len) (p := fun i y => ItOk y ∧ w.cells? base (a.add (i * 101)) 101 = some (itL y)) (fun i hi => by
      obtain ⟨cs', h1, h2⟩ := hx i (by omega)
      obtain ⟨y, ho, rfl, _⟩ := trod_it h2
      exact ⟨y, ho, h1⟩)
    refine ⟨some a, len, cap, (List.range len).map V, rfl, fun y hy => ?_, rd_rows (by omega) itL V (fun i hi => itL_len _ (hV i hi).1) (fun i hi => (hV i hi).2)⟩
    obtain ⟨i, hi, rfl⟩ := List.mem_map.1 hy
    exact (hV i (List.mem_range.1 hi)).1
/-- A subscriber that came in. -/
theorem open_sub (h : DataW.trod enc Tryd.prog w base spare held fuel 53 cs = some x) : ∃ r : RS, cs = rsL r ∧ SubAt w r := by
  obtain ⟨xs, m, rfl, rfl, hl, hn, hel⟩ := DataW.trod_struct Tryd.underlying53 h
  have cS : Tryd.prog.cellsOf 53 = 4 := by kernel_rfl
  have cI : Tryd.prog.cellsOf 3 = 1 := by kernel_rfl
  have cT : Tryd.prog.cellsOf 47 = 2 := by kernel_rfl
  have cL : Tryd.prog.cellsOf 45 = 1 := by kernel_rfl
  have cB : Tryd.prog.cellsOf 4 = 1 := by kernel_rfl
  rw [cS] at hl
  obtain ⟨x0, x1, x2, rfl⟩ := list3 hn
  have h0 : DataW.trod enc Tryd.prog w base spare held m 3 ((cs.drop 0).take (Tryd.prog.cellsOf 3)) = some x0 := hel 0 _ rfl
  rw [cI] at h0
  have h1 : DataW.trod enc Tryd.prog w base spare held m 3 ((cs.drop 1).take (Tryd.prog.cellsOf 3)) = some x1 := hel 1 _ rfl
  rw [cI] at h1
  have h2 : DataW.trod enc Tryd.prog w base spare held m 47 ((cs.drop 2).take (Tryd.prog.cellsOf 47)) = some x2 := hel 2 _ rfl
  rw [cT] at h2
  obtain ⟨a, e0, _, _⟩ := DataW.trod_int Tryd.underlying3 h0
  obtain ⟨b, e1, _, _⟩ := DataW.trod_int Tryd.underlying3 h1
  obtain ⟨ys, m2, rfl, rfl, hl2, hn2, hel2⟩ := DataW.trod_struct Tryd.underlying47 h2
  rw [cT] at hl2
  obtain ⟨y0, y1, rfl⟩ := list2 hn2
  have k0 : DataW.trod enc Tryd.prog w base spare held m2 45 ((((cs.drop 2).take 2).drop 0).take (Tryd.prog.cellsOf 45)) = some y0 := hel2 0 _ rfl
  rw [cL] at k0
  have k1 : DataW.trod enc Tryd.prog w base spare held m2 4 ((((cs.drop 2).take 2).drop 1).take (Tryd.prog.cellsOf 4)) = some y1 := hel2 1 _ rfl
  rw [cB] at k1
  obtain ⟨A, n, c, its, f0, ho, hr⟩ := open_items k0
  obtain ⟨l, f1, _⟩ := DataW.trod_bool Tryd.underlying4 k1
  refine ⟨((a, b, its, l), A, n, c), ?_, ho, hr⟩
  match cs, hl with
  | [c0, c1, c2, c3], _ =>
    simp at e0 e1 f0 f1
    subst e0 e1 f0 f1
    rfl
/-- A slice of subscribers that came in. -/
theorem open_subs (h : DataW.trod enc Tryd.prog w base spare held fuel 22 cs = some x) : ∃ (A : Option Addr) (n c : Nat) (rs : List RS), cs = [.slice A n c] ∧ HRd w A n rs := by
  have c1 : Tryd.prog.cellsOf 53 = 4 := by kernel_rfl
  rcases Go.Deep.open_slice Tryd.underlying22 h with ⟨rfl, _⟩ | ⟨a, len, cap, m, n, D, Pl, rfl, hb, hl, hm, hmm, _, hx⟩
  · exact ⟨none, 0, 0, [], rfl, Rd.nil _ _ _ _, fun r hr => by cases hr⟩
  · rw [c1] at hx
    have hlm : len ≤ m := by rw [hmm]; split <;> omega
    obtain ⟨V, hV⟩ := Go.Deep.choose_lt (α := RS) (n := len) (p := fun i r => SubAt w r ∧ w.cells? base (a.add (i * 4)) 4 = some (rsL r)) (fun i hi => by
      obtain ⟨cs', h1, h2⟩ := hx i (by omega)
      obtain ⟨r, rfl, hr⟩ := open_sub h2
      exact ⟨r, hr, h1⟩)
    refine ⟨some a, len, cap, (List.range len).map V, rfl, rd_rows (by omega) rsL V (fun i hi => rfl) (fun i hi => (hV i hi).2), fun r hr => ?_⟩
    obtain ⟨i, hi, rfl⟩ := List.mem_map.1 hr
    exact (hV i (List.mem_range.1 hi)).1
end
theorem open_hub {H : Type} {enc : TypeId × Value → H} {W : World} {base : Nat} {sp : Nat → Bool} {held : Bool} {r : Reach} {b0 : Nat} {v : Value} {d : DataW H} {ps : List MemPlace} (hv : Value.okWide Tryd.prog W r b0 24 v) (hd : DataW.Trod enc Tryd.prog W base sp held 24 v d ps) :
    ∃ (o : Int) (A : Option Addr) (n c : Nat) (rs : List RS), v = .agg #[.int .i64 o, .slice A n c] ∧ HRd W A n rs := by
  obtain ⟨v0, v1, y0, y1, n, rfl, _, _, h0, h1⟩ := Joins.open_agg2 Tryd.underlying24 (by kernel_rfl) (by kernel_rfl) hv hd
  obtain ⟨o, e0, _, _⟩ := DataW.trod_int Tryd.underlying3 h0
  simp at e0
  subst e0
  obtain ⟨A, n, c, rs, e1, hR⟩ := open_subs h1
  simp at e1
  subst e1
  exact ⟨o, A, n, c, rs, rfl, hR⟩
theorem open_ev {H : Type} {enc : TypeId × Value → H} {W : World} {base : Nat} {sp : Nat → Bool} {held : Bool} {r : Reach} {b0 : Nat} {v : Value} {d : DataW H} {ps : List MemPlace} (hv : Value.okWide Tryd.prog W r b0 34 v) (hd : DataW.Trod enc Tryd.prog W base sp held 34 v d ps) :
    ∃ e : Ev, v = .agg (evL e).toArray ∧ HdOk e.2.2 := by
  obtain ⟨fuel, hf⟩ := hd
  obtain ⟨e, ho, hc, _⟩ := trod_ev hf
  obtain ⟨cs, rfl, _⟩ := okWide_struct Tryd.underlying34 hv
  refine ⟨e, ?_, ho⟩
  have : cs.toList = evL e := by simpa [Value.cells] using hc
  rw [← this]
end Go.Proofs.YtmepbokoopgmiaaDoor
