/-
  Items, events, headers that came in, opened; what the row's listed variable gives the walks: the gap stands in its cells. And a start that meets the condition.
-/
import Derived.Test.YtmepbokoopgmiaaDoorHubK
import Derived.ProofKit
import Derived.LaidMore
import Derived.OpenShut
import Derived.Stop.Joined
namespace Go.Proofs.YtmepbokoopgmiaaDoor
open Go.ChangeShapes Go.WideShapes Go.ChangeAt Go.RowKit
set_option linter.unusedVariables false

section
variable {H : Type} {enc : TypeId × Value → H} {w : World} {base : Nat} {spare : Nat → Bool} {held : Bool} {fuel : Nat} {cs : List Value} {x : DataW H × List MemPlace}
theorem u8_of_int {a : Int} (hw : (Lit.int .u8 a).wf = true) : Value.int .u8 a = bv (UInt8.ofNat a.toNat) ∧ ((UInt8.ofNat a.toNat).toNat : Int) = a := by
  have h : 0 ≤ a ∧ a < 256 := by
    simp [Lit.wf, IntKind.min, IntKind.max, IntKind.signed, IntKind.bits] at hw
    omega
  have e : ((UInt8.ofNat a.toNat).toNat : Int) = a := by
    rw [UInt8.toNat_ofNat']
    omega
  exact ⟨by rw [bv, e], e⟩
def digD (bs : List UInt8) : DataW H := .agg (bs.map fun b => .lit (.int .u8 (b.toNat : Int)))
theorem trod_dig (h : DataW.trod enc Tryd.prog w base spare held fuel 30 cs = some x) : ∃ bs : List UInt8, bs.length = 32 ∧ cs = bs.map bv ∧ x.1 = digD bs := by
  obtain ⟨xs, m, rfl, rfl, hl, hn, hel⟩ := DataW.trod_array Tryd.underlying30 h
  have c32 : Tryd.prog.cellsOf 30 = 32 := by kernel_rfl
  have c1 : Tryd.prog.cellsOf 5 = 1 := by kernel_rfl
  rw [c32] at hl
  have key : ∀ i, i < 32 → ∃ b : UInt8, cs[i]? = some (bv b) ∧ (xs.map (·.1))[i]? = some (.lit (.int .u8 (b.toNat : Int))) := fun i hi => by
    have h0 := hel i hi
    rw [c1, Nat.mul_one, List.getElem?_eq_getElem (by omega)] at h0
    obtain ⟨k, e1, e2, hw⟩ := DataW.trod_int Tryd.underlying5 h0
    obtain ⟨f1, f2⟩ := u8_of_int hw
    refine ⟨UInt8.ofNat k.toNat, ?_, ?_⟩
    · have := congrArg (fun l => l[0]?) e1
      simp only [List.getElem?_take, List.getElem?_drop, Nat.add_zero, List.getElem?_cons_zero] at this
      rw [if_pos (by omega)] at this
      rw [this, f1]
    · rw [List.getElem?_map, List.getElem?_eq_getElem (by omega), e2, f2]
      rfl
  have hmap : ∀ i (hi : i < 32), ∃ b : UInt8, True := fun _ _ => ⟨0, trivial⟩
  refine ⟨cs.map (fun v => match v with | .int _ n => UInt8.ofNat n.toNat | _ => 0), by simpa using hl, ?_, ?_⟩
  · refine List.ext_getElem? fun i => ?_
    by_cases hi : i < 32
    · obtain ⟨b, hb, _⟩ := key i hi
      rw [List.map_map, List.getElem?_map, hb]
      simp [bv]
    · rw [List.getElem?_eq_none (by omega), List.getElem?_eq_none (by simp; omega)]
  · show DataW.agg _ = DataW.agg _
    congr 1
    refine List.ext_getElem? fun i => ?_
    by_cases hi : i < 32
    · obtain ⟨b, hb, hd⟩ := key i hi
      rw [hd, List.map_map, List.getElem?_map, hb]
      simp [bv]
    · rw [List.getElem?_eq_none (by simp; omega), List.getElem?_eq_none (by simp; omega)]
theorem cut_at (cs : List Value) (a n : Nat) : cs.drop a = (cs.drop a).take n ++ cs.drop (a + n) := by
  rw [← List.drop_drop]
  exact (List.take_append_drop n _).symm
def hdD (h : Hd) : DataW H := .agg [.lit (.int .i64 h.1), digD h.2.1, digD h.2.2.1, digD h.2.2.2.1, .lit (.int .i64 h.2.2.2.2)]
def evD (e : Ev) : DataW H := .agg [.lit (.int .i64 e.1), .lit (.bool e.2.1), hdD e.2.2]
def itD (x : It) : DataW H := .agg [.lit (.bool x.1), evD x.2]
theorem list5 {α : Type} {xs : List α} (h : xs.length = 5) : ∃ a b c d e, xs = [a, b, c, d, e] := by
  match xs, h with
  | [a, b, c, d, e], _ => exact ⟨a, b, c, d, e, rfl⟩
theorem list3 {α : Type} {xs : List α} (h : xs.length = 3) : ∃ a b c, xs = [a, b, c] := by
  match xs, h with
  | [a, b, c], _ => exact ⟨a, b, c, rfl⟩
theorem list2 {α : Type} {xs : List α} (h : xs.length = 2) : ∃ a b, xs = [a, b] := by
  match xs, h with
  | [a, b], _ => exact ⟨a, b, rfl⟩
theorem trod_hd (h : DataW.trod enc Tryd.prog w base spare held fuel 32 cs = some x) : ∃ y : Hd, HdOk y ∧ cs = hdL y ∧ x.1 = hdD y := by
  obtain ⟨xs, m, rfl, rfl, hl, hn, hel⟩ := DataW.trod_struct Tryd.underlying32 h
  have cH : Tryd.prog.cellsOf 32 = 98 := by kernel_rfl
  have cD : Tryd.prog.cellsOf 30 = 32 := by kernel_rfl
  have cI : Tryd.prog.cellsOf 3 = 1 := by kernel_rfl
  rw [cH] at hl
  obtain ⟨x0, x1, x2, x3, x4, rfl⟩ := list5 hn
  have h0 : DataW.trod enc Tryd.prog w base spare held m 3 ((cs.drop 0).take (Tryd.prog.cellsOf 3)) = some x0 := hel 0 _ rfl
  rw [cI] at h0
  have h1 : DataW.trod enc Tryd.prog w base spare held m 30 ((cs.drop 1).take (Tryd.prog.cellsOf 30)) = some x1 := hel 1 _ rfl
  rw [cD] at h1
  have h2 : DataW.trod enc Tryd.prog w base spare held m 30 ((cs.drop 33).take (Tryd.prog.cellsOf 30)) = some x2 := hel 2 _ rfl
  rw [cD] at h2
  have h3 : DataW.trod enc Tryd.prog w base spare held m 30 ((cs.drop 65).take (Tryd.prog.cellsOf 30)) = some x3 := hel 3 _ rfl
  rw [cD] at h3
  have h4 : DataW.trod enc Tryd.prog w base spare held m 3 ((cs.drop 97).take (Tryd.prog.cellsOf 3)) = some x4 := hel 4 _ rfl
  rw [cI] at h4
  obtain ⟨a, e0, f0, _⟩ := DataW.trod_int Tryd.underlying3 h0
  obtain ⟨p, l1, e1, f1⟩ := trod_dig h1
  obtain ⟨q, l2, e2, f2⟩ := trod_dig h2
  obtain ⟨r, l3, e3, f3⟩ := trod_dig h3
  obtain ⟨b, e4, f4, _⟩ := DataW.trod_int Tryd.underlying3 h4
  refine ⟨(a, p, q, r, b), ⟨l1, l2, l3⟩, ?_, ?_⟩
  · have d0 := cut_at cs 0 1
    have d1 := cut_at cs 1 32
    have d2 := cut_at cs 33 32
    have d3 := cut_at cs 65 32
    have d4 := cut_at cs 97 1
    rw [e0] at d0
    rw [e1] at d1
    rw [e2] at d2
    rw [e3] at d3
    rw [e4, List.drop_eq_nil_of_le (show cs.length ≤ 97 + 1 by omega)] at d4
    rw [List.drop_zero] at d0
    rw [d0, d1, d2, d3, d4]
    rfl
  · simp only [List.map_cons, List.map_nil]
    rw [f0, f1, f2, f3, f4]
    rfl
theorem trod_ev (h : DataW.trod enc Tryd.prog w base spare held fuel 34 cs = some x) : ∃ y : Ev, HdOk y.2.2 ∧ cs = evL y ∧ x.1 = evD y := by
  obtain ⟨xs, m, rfl, rfl, hl, hn, hel⟩ := DataW.trod_struct Tryd.underlying34 h
  have cE : Tryd.prog.cellsOf 34 = 100 := by kernel_rfl
  have cH : Tryd.prog.cellsOf 32 = 98 := by kernel_rfl
  have cB : Tryd.prog.cellsOf 4 = 1 := by kernel_rfl
  have cI : Tryd.prog.cellsOf 3 = 1 := by kernel_rfl
  rw [cE] at hl
  obtain ⟨x0, x1, x2, rfl⟩ := list3 hn
  have h0 : DataW.trod enc Tryd.prog w base spare held m 3 ((cs.drop 0).take (Tryd.prog.cellsOf 3)) = some x0 := hel 0 _ rfl
  rw [cI] at h0
  have h1 : DataW.trod enc Tryd.prog w base spare held m 4 ((cs.drop 1).take (Tryd.prog.cellsOf 4)) = some x1 := hel 1 _ rfl
  rw [cB] at h1
  have h2 : DataW.trod enc Tryd.prog w base spare held m 32 ((cs.drop 2).take (Tryd.prog.cellsOf 32)) = some x2 := hel 2 _ rfl
  rw [cH] at h2
  obtain ⟨a, e0, f0, _⟩ := DataW.trod_int Tryd.underlying3 h0
  obtain ⟨p, e1, f1⟩ := DataW.trod_bool Tryd.underlying4 h1
  obtain ⟨q, l2, e2, f2⟩ := trod_hd h2
  refine ⟨(a, p, q), l2, ?_, ?_⟩
  · have d0 := cut_at cs 0 1
    have d1 := cut_at cs 1 1
    have d2 := cut_at cs 2 98
    rw [e0] at d0
    rw [e1] at d1
    rw [e2, List.drop_eq_nil_of_le (show cs.length ≤ 2 + 98 by omega), List.append_nil] at d2
    rw [List.drop_zero] at d0
    rw [d0, d1, d2]
    rfl
  · simp only [List.map_cons, List.map_nil]
    rw [f0, f1, f2]
    rfl
theorem trod_it (h : DataW.trod enc Tryd.prog w base spare held fuel 36 cs = some x) : ∃ y : It, ItOk y ∧ cs = itL y ∧ x.1 = itD y := by
  obtain ⟨xs, m, rfl, rfl, hl, hn, hel⟩ := DataW.trod_struct Tryd.underlying36 h
  have cI : Tryd.prog.cellsOf 36 = 101 := by kernel_rfl
  have cE : Tryd.prog.cellsOf 34 = 100 := by kernel_rfl
  have cB : Tryd.prog.cellsOf 4 = 1 := by kernel_rfl
  rw [cI] at hl
  obtain ⟨x0, x1, rfl⟩ := list2 hn
  have h0 : DataW.trod enc Tryd.prog w base spare held m 4 ((cs.drop 0).take (Tryd.prog.cellsOf 4)) = some x0 := hel 0 _ rfl
  rw [cB] at h0
  have h1 : DataW.trod enc Tryd.prog w base spare held m 34 ((cs.drop 1).take (Tryd.prog.cellsOf 34)) = some x1 := hel 1 _ rfl
  rw [cE] at h1
  obtain ⟨p, e0, f0⟩ := DataW.trod_bool Tryd.underlying4 h0
  obtain ⟨q, l1, e1, f1⟩ := trod_ev h1
  refine ⟨(p, q), l1, ?_, ?_⟩
  · have d0 := cut_at cs 0 1
    have d1 := cut_at cs 1 100
    rw [e0] at d0
    rw [e1, List.drop_eq_nil_of_le (show cs.length ≤ 1 + 100 by omega), List.append_nil] at d1
    rw [List.drop_zero] at d0
    rw [d0, d1]
    rfl
  · simp only [List.map_cons, List.map_nil]
    rw [f0, f1]
    rfl
theorem digD_inj {a b : List UInt8} (h : (digD a : DataW H) = digD b) : a = b := by
  simp only [digD, DataW.agg.injEq] at h
  refine (List.map_inj_right (fun x y hxy => ?_)).1 h
  simp only [DataW.lit.injEq, Lit.int.injEq, true_and] at hxy
  exact UInt8.toNat.inj (by omega)
theorem itD_inj {a b : It} (h : (itD a : DataW H) = itD b) : a = b := by
  obtain ⟨g, n, r, t, p, q, s, m⟩ := a
  obtain ⟨g', n', r', t', p', q', s', m'⟩ := b
  simp only [itD, evD, hdD, DataW.agg.injEq, List.cons.injEq, DataW.lit.injEq, Lit.bool.injEq, Lit.int.injEq, true_and, and_true] at h
  obtain ⟨rfl, rfl, rfl, rfl, h1, h2, h3, rfl⟩ := h
  rw [digD_inj h1, digD_inj h2, digD_inj h3]
end
theorem gG : Tryd.prog.globalNamed "beadroll/tap.gap" = some 0 := by kernel_rfl
theorem tG : (Tryd.prog.globals[0]?).map (·.type) = some 36 := by kernel_rfl
theorem laid_eq : (Rows.laid_beadroll_tap_gap : DataW Unit) = itD gapIt := by kernel_rfl

/-- The start meets the condition. -/
theorem door_met (os : Os) (args : Array Value) : laidMetH Tryd.prog [("beadroll/tap.gap", Rows.laid_beadroll_tap_gap)] ((World.doorLaid Tryd.prog 4000 os).forCall (fun _ _ => 0) ⟨#[], args, []⟩).memory :=
  laidMetH_of_parts3 (fuel := 8) (laidMet_of_run' 8 (by kernel_rfl) (by kernel_rfl)) (by kernel_rfl) (by kernel_rfl)

theorem gok_of_laid {W : World} (h : laidMetH Tryd.prog [("beadroll/tap.gap", Rows.laid_beadroll_tap_gap)] W) : GOk W := by
  rw [MakeChecks.laidMetH_plain _ _ _ (by kernel_rfl)] at h
  obtain ⟨ps, ⟨g0, t0, cs0, f0, p0, q0, hg0, ht0, hv0, hd0, _, _⟩, _, _⟩ := h
  obtain rfl := Option.some.inj (gG.symm.trans hg0)
  obtain rfl := Option.some.inj (tG.symm.trans ht0)
  obtain ⟨y, hy, hcs, hd⟩ := trod_it hd0
  have he : y = gapIt := itD_inj (hd.symm.trans laid_eq)
  subst he
  intro j v hv
  have hc := World.var?_cell hg0 hv0 j
  rw [← hcs, Array.getElem?_toList] at hv
  rw [Nat.zero_add]
  exact hc.trans hv
end Go.Proofs.YtmepbokoopgmiaaDoor
