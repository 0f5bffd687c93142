/-
  Digests, bytes, slices of these that came in, opened. No condition.
-/
import Derived.Test.YtheljogmnalbmaaDoorLaid
import Derived.Test.YtheljogmnalbmaaDoorRowE
import Derived.Test.YtheljogmnalbmaaDoorIsRow
import Derived.Test.YtheljogmnalbmaaDoorOpen
import Derived.Lib.SmallJoins
import Derived.Deep.Slices
namespace Go.Proofs.YtheljogmnalbmaaDoor
open Go.ChangeShapes Go.WideShapes Go.ChangeAt Go.RowKit
set_option linter.unusedVariables false

section
variable {H : Type} {enc : TypeId × Value → H} {w : World} {base : Nat} {spare : Nat → Bool} {held : Bool} {fuel : Nat} {cs : List Value} {x : DataW H × List MemPlace}
theorem u8_of_int {a : Int} (hw : (Lit.int .u8 a).wf = true) : Value.int .u8 a = bv (UInt8.ofNat a.toNat) ∧ ((UInt8.ofNat a.toNat).toNat : Int) = a := by
  have h : 0 ≤ a ∧ a < 256 := by
    simp [Lit.wf, IntKind.min, IntKind.max, IntKind.signed, IntKind.bits] at hw
    omega
  have e : ((UInt8.ofNat a.toNat).toNat : Int) = a := by
    rw [UInt8.toNat_ofNat']
    omega
  exact ⟨by rw [bv, e], e⟩
def digD (bs : List UInt8) : DataW H := .agg (bs.map fun b => .lit (.int .u8 (b.toNat : Int)))
theorem trod_dig (h : DataW.trod enc Tryd.prog w base spare held fuel 23 cs = some x) : ∃ bs : List UInt8, bs.length = 32 ∧ cs = bs.map bv ∧ x.1 = digD bs := by
  obtain ⟨xs, m, rfl, rfl, hl, hn, hel⟩ := DataW.trod_array Tryd.underlying23 h
  have c32 : Tryd.prog.cellsOf 23 = 32 := by kernel_rfl
  have c1 : Tryd.prog.cellsOf 5 = 1 := by kernel_rfl
  rw [c32] at hl
  have key : ∀ i, i < 32 → ∃ b : UInt8, cs[i]? = some (bv b) ∧ (xs.map (·.1))[i]? = some (.lit (.int .u8 (b.toNat : Int))) := fun i hi => by
    have h0 := hel i hi
    rw [c1, Nat.mul_one, List.getElem?_eq_getElem (by omega)] at h0
    obtain ⟨k, e1, e2, hw⟩ := DataW.trod_int Tryd.underlying5 h0
    obtain ⟨f1, f2⟩ := u8_of_int hw
    refine ⟨UInt8.ofNat k.toNat, ?_, ?_⟩
    · have := congrArg (fun l => l[0]?) e1
      simp only [List.getElem?_take, List.getElem?_drop, Nat.add_zero, List.getElem?_cons_zero] at this
      rw [if_pos (by omega)] at this
      rw [this, f1]
    · rw [List.getElem?_map, List.getElem?_eq_getElem (by omega), e2, f2]
      rfl
  have hmap : ∀ i (hi : i < 32), ∃ b : UInt8, True := fun _ _ => ⟨0, trivial⟩
  refine ⟨cs.map (fun v => match v with | .int _ n => UInt8.ofNat n.toNat | _ => 0), by simpa using hl, ?_, ?_⟩
  · refine List.ext_getElem? fun i => ?_
    by_cases hi : i < 32
    · obtain ⟨b, hb, _⟩ := key i hi
      rw [List.map_map, List.getElem?_map, hb]
      simp [bv]
    · rw [List.getElem?_eq_none (by omega), List.getElem?_eq_none (by simp; omega)]
  · show DataW.agg _ = DataW.agg _
    congr 1
    refine List.ext_getElem? fun i => ?_
    by_cases hi : i < 32
    · obtain ⟨b, hb, hd⟩ := key i hi
      rw [hd, List.map_map, List.getElem?_map, hb]
      simp [bv]
    · rw [List.getElem?_eq_none (by simp; omega), List.getElem?_eq_none (by simp; omega)]
/-- Elements that lie one behind the other. -/
theorem rd_rows {α : Type} {sz n : Nat} {a : Addr} (hsz : 0 < sz) (f : α → List Value) (ys : Nat → α) (hlen : ∀ i, i < n → (f (ys i)).length = sz) (h : ∀ i, i < n → w.cells? base (a.add (i * sz)) sz = some (f (ys i))) : Rd w 0 sz (some a) n (((List.range n).map ys).flatMap f) := by
  have key : ∀ m, m ≤ n → (((List.range m).map ys).flatMap f).length = m * sz ∧ ∀ i j, i < m → j < sz → (((List.range m).map ys).flatMap f)[i * sz + j]? = (f (ys i))[j]? := by
    intro m
    induction m with
    | zero => intro _; exact ⟨by simp, fun i j hi => absurd hi (Nat.not_lt_zero _)⟩
    | succ m ih =>
      intro hm
      obtain ⟨h1, h2⟩ := ih (by omega)
      have e : ((List.range (m + 1)).map ys).flatMap f = ((List.range m).map ys).flatMap f ++ f (ys m) := by
        rw [List.range_succ, List.map_append, List.flatMap_append]
        simp
      rw [e]
      refine ⟨by rw [List.length_append, h1, hlen m (by omega), Nat.succ_mul], fun i j hi hj => ?_⟩
      rcases Nat.lt_succ_iff_lt_or_eq.1 hi with hi | rfl
      · rw [List.getElem?_append_left, h2 i j hi hj]
        rw [h1]
        have : (i + 1) * sz ≤ m * sz := Nat.mul_le_mul_right _ hi
        rw [Nat.succ_mul] at this
        omega
      · rw [List.getElem?_append_right (by omega), h1]
        congr 1
        omega
  obtain ⟨k1, k2⟩ := key n (Nat.le_refl _)
  refine ⟨k1, fun hn => ?_⟩
  have hn0 : 0 < n := Nat.pos_of_mul_pos_right hn
  have h0 := (World.cells?_some (h 0 hn0)).2.2 0 (by omega)
  obtain ⟨b, o, spot⟩ := a
  have hs : spot = none := by
    have := List.getElem?_eq_getElem (l := f (ys 0)) (i := 0) (by rw [hlen 0 hn0]; exact hsz)
    rw [this] at h0
    simpa [Addr.add] using World.cell?_spot h0
  subst hs
  refine ⟨b, o, rfl, Nat.zero_le _, fun j hj => ?_⟩
  have hi : j / sz < n := Nat.div_lt_of_lt_mul (by rw [Nat.mul_comm]; exact hj)
  have hj' : j % sz < sz := Nat.mod_lt _ hsz
  have hc := (World.cells?_some (h (j / sz) hi)).2.2 (j % sz) hj'
  have e : j / sz * sz + j % sz = j := by rw [Nat.mul_comm]; exact Nat.div_add_mod j sz
  rw [add_lit, add_lit, Nat.add_assoc, e] at hc
  rw [hc, ← k2 (j / sz) (j % sz) hi hj', e]


/-- A slice of digests that came in. -/
theorem open_digs (h : DataW.trod enc Tryd.prog w base spare held fuel 25 cs = some x) : ∃ (A : Option Addr) (n c : Nat) (ds : List (List UInt8)), cs = [.slice A n c] ∧ Digs w A n ds ∧ n ≤ c := by
  have c1 : Tryd.prog.cellsOf 23 = 32 := by kernel_rfl
  rcases Go.Deep.open_slice Tryd.underlying25 h with ⟨rfl, _⟩ | ⟨a, len, cap, m, n, D, Pl, rfl, hb, hl, hm, hmm, _, hx⟩
  · exact ⟨none, 0, 0, [], rfl, ⟨fun d hd => (by cases hd), Rd.nil _ _ _ _⟩, Nat.le_refl _⟩
  · rw [c1] at hx
    have hlm : len ≤ m := by rw [hmm]; split <;> omega
    obtain ⟨V, hV⟩ := Go.Deep.choose_lt (α := List UInt8) (n := len) (p := fun i y => y.length = 32 ∧ w.cells? base (a.add (i * 32)) 32 = some (y.map bv)) (fun i hi => by
      obtain ⟨cs', h1, h2⟩ := hx i (by omega)
      obtain ⟨y, ho, rfl, _⟩ := trod_dig h2
      exact ⟨y, ho, h1⟩)
    refine ⟨some a, len, cap, (List.range len).map V, rfl, ⟨fun y hy => ?_, rd_rows (by omega) (fun y : List UInt8 => y.map bv) V (fun i hi => by simpa using (hV i hi).1) (fun i hi => (hV i hi).2)⟩, hl⟩
    obtain ⟨i, hi, rfl⟩ := List.mem_map.1 hy
    exact (hV i (List.mem_range.1 hi)).1
/-- Bytes that came in. -/
theorem open_bytesT (h : DataW.trod enc Tryd.prog w base spare held fuel 24 cs = some x) : ∃ (A : Option Addr) (n c : Nat) (bs : List UInt8), cs = [.slice A n c] ∧ Rd w 0 1 A n (bs.map bv) ∧ n ≤ c := by
  rcases open_ints Tryd.underlying24 Tryd.underlying5 (by kernel_rfl) h with ⟨rfl, _⟩ | ⟨a, l, c, zs, rfl, _, hl, hm, hz, _, hcell, hwz⟩
  · exact ⟨none, 0, 0, [], rfl, Rd.nil _ _ _ _, Nat.le_refl _⟩
  · have hzl : l ≤ zs.length := by rw [hz]; split <;> omega
    refine ⟨some a, l, c, (zs.take l).map (fun z => UInt8.ofNat z.toNat), rfl, ⟨by simp; omega, fun hn => ?_⟩, hl⟩
    obtain ⟨b, o, spot⟩ := a
    have h0 := hcell 0 (by omega)
    have hs : spot = none := by simpa [Addr.add] using World.cell?_spot h0
    subst hs
    refine ⟨b, o, rfl, Nat.zero_le _, fun j hj => ?_⟩
    have hj' : j < zs.length := by omega
    have h1 := hcell j hj'
    rw [add_lit, List.getD_eq_getElem?_getD, List.getElem?_eq_getElem hj'] at h1
    rw [h1, List.map_map, List.getElem?_map, List.getElem?_take, if_pos (by omega), List.getElem?_eq_getElem hj']
    show some (Value.int .u8 zs[j]) = some (bv _)
    rw [(u8_of_int (hwz _ (List.getElem_mem hj'))).1]
/-- A slice of slices of bytes that came in. -/
theorem open_parts (h : DataW.trod enc Tryd.prog w base spare held fuel 27 cs = some x) : ∃ (A : Option Addr) (n c : Nat) (pss : List (List UInt8)), cs = [.slice A n c] ∧ Parts w A n pss ∧ n ≤ c := by
  have c1 : Tryd.prog.cellsOf 24 = 1 := by kernel_rfl
  rcases Go.Deep.open_slice Tryd.underlying27 h with ⟨rfl, _⟩ | ⟨a, len, cap, m, n, D, Pl, rfl, hb, hl, hm, hmm, _, hx⟩
  · exact ⟨none, 0, 0, [], rfl, Parts.none _ _, Nat.le_refl _⟩
  · rw [c1] at hx
    have hlm : len ≤ m := by rw [hmm]; split <;> omega
    obtain ⟨V, hV⟩ := Go.Deep.choose_lt (α := (Option Addr × Nat × Nat) × List UInt8) (n := len) (p := fun i y => Rd w 0 1 y.1.1 y.1.2.1 (y.2.map bv) ∧ w.cells? base (a.add (i * 1)) 1 = some [.slice y.1.1 y.1.2.1 y.1.2.2]) (fun i hi => by
      obtain ⟨cs', h1, h2⟩ := hx i (by omega)
      obtain ⟨A, k, c, bs, rfl, hr, _⟩ := open_bytesT h2
      exact ⟨((A, k, c), bs), hr, h1⟩)
    have hR := rd_rows (w := w) (base := base) (sz := 1) (by omega) (fun y : (Option Addr × Nat × Nat) × List UInt8 => [Value.slice y.1.1 y.1.2.1 y.1.2.2]) V (fun i hi => rfl) (fun i hi => (hV i hi).2)
    refine ⟨some a, len, cap, (List.range len).map fun i => (V i).2, rfl, ⟨by simp, fun i hi => ?_⟩, hl⟩
    obtain ⟨b, o, e, _, hlt, hc⟩ := hR.lt (by omega)
    refine ⟨b, o, (V i).1.1, (V i).1.2.1, (V i).1.2.2, e, hlt, ?_, ?_⟩
    · rw [hc i (by omega)]
      have hf : ∀ l : List ((Option Addr × Nat × Nat) × List UInt8), l.flatMap (fun y => [Value.slice y.1.1 y.1.2.1 y.1.2.2]) = l.map (fun y => Value.slice y.1.1 y.1.2.1 y.1.2.2) := fun l => by
        induction l with
        | nil => rfl
        | cons y l ih => simp [ih]
      rw [hf, List.map_map, List.getElem?_map, List.getElem?_range hi]
      rfl
    · rw [List.getD_eq_getElem?_getD, List.getElem?_map, List.getElem?_range hi]
      exact (hV i hi).1
end
theorem open_digsV {H : Type} {enc : TypeId × Value → H} {W : World} {base : Nat} {sp : Nat → Bool} {held : Bool} {r : Reach} {b0 : Nat} {v : Value} {d : DataW H} {ps : List MemPlace} (hv : Value.okWide Tryd.prog W r b0 25 v) (hd : DataW.Trod enc Tryd.prog W base sp held 25 v d ps) :
    ∃ (A : Option Addr) (n c : Nat) (ds : List (List UInt8)), v = .slice A n c ∧ Digs W A n ds ∧ n ≤ c := by
  obtain ⟨a, l, c, rfl⟩ := okWide_slice Tryd.underlying25 hv
  obtain ⟨fuel, hf⟩ := hd
  obtain ⟨A, n, c', ds, hc, h1, h2⟩ := open_digs hf
  simp [Value.cells] at hc
  obtain ⟨rfl, rfl, rfl⟩ := hc
  exact ⟨_, _, _, ds, rfl, h1, h2⟩
theorem open_partsV {H : Type} {enc : TypeId × Value → H} {W : World} {base : Nat} {sp : Nat → Bool} {held : Bool} {r : Reach} {b0 : Nat} {v : Value} {d : DataW H} {ps : List MemPlace} (hv : Value.okWide Tryd.prog W r b0 27 v) (hd : DataW.Trod enc Tryd.prog W base sp held 27 v d ps) :
    ∃ (A : Option Addr) (n c : Nat) (pss : List (List UInt8)), v = .slice A n c ∧ Parts W A n pss ∧ n ≤ c := by
  obtain ⟨a, l, c, rfl⟩ := okWide_slice Tryd.underlying27 hv
  obtain ⟨fuel, hf⟩ := hd
  obtain ⟨A, n, c', ds, hc, h1, h2⟩ := open_parts hf
  simp [Value.cells] at hc
  obtain ⟨rfl, rfl, rfl⟩ := hc
  exact ⟨_, _, _, ds, rfl, h1, h2⟩
end Go.Proofs.YtheljogmnalbmaaDoor
