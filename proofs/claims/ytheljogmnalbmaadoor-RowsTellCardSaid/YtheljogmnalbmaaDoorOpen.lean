/-
  A digest that came in, opened: 32 bytes. No condition beyond those each theorem names.
-/
import Derived.Test.YtheljogmnalbmaaDoorKit
import Derived.WideKeyArr2
namespace Go.Proofs.YtheljogmnalbmaaDoor
open Go.ChangeShapes Go.WideShapes
section
variable {H : Type} {enc : TypeId × Value → H} {P : Program} {w : World} {base : Nat} {sp : Nat → Bool} {held : Bool}
theorem mapM_each {α β : Type} {f : α → Option β} : ∀ (l : List α) (ys : List β), l.mapM f = some ys → ∀ x ∈ l, ∃ y, f x = some y
  | [], _, _, _, hx => by cases hx
  | a :: l, ys, h, x, hx => by
    rw [List.mapM_cons] at h
    simp only [bind, Option.bind_eq_some_iff, pure, Option.some.injEq] at h
    obtain ⟨y, hy, zs, hz, rfl⟩ := h
    rcases List.mem_cons.1 hx with rfl | hx
    · exact ⟨y, hy⟩
    · exact mapM_each l zs hz x hx
theorem bv_of_int {a : Int} (hw : (Lit.int .u8 a).wf = true) : Value.int .u8 a = bv (UInt8.ofNat a.toNat) := by
  have h : 0 ≤ a ∧ a < 256 := by
    simp [Lit.wf, IntKind.min, IntKind.max, IntKind.signed, IntKind.bits] at hw
    omega
  unfold bv
  congr 1
  rw [UInt8.toNat_ofNat']
  omega
theorem open_dig {k e : TypeId} {n : Nat} (hu : P.underlying k = some (.array n e)) (hn : P.cellsOf k = n) (he : P.underlying e = some (.int .u8)) (h1 : P.cellsOf e = 1)
    {r : Reach} {b0 : Nat} {v : Value} {d : DataW H} {ps : List MemPlace} (hv : Value.okWide P w r b0 k v) (hd : DataW.Trod enc P w base sp held k v d ps) :
    ∃ ds : List UInt8, v = .agg (ds.map bv).toArray ∧ ds.length = n := by
  simp only [Value.okWide, hu] at hv
  obtain ⟨cs, rfl, hcs, _⟩ := hv
  rw [hn] at hcs
  obtain ⟨fuel, hf⟩ := hd
  cases fuel with
  | zero => simp [DataW.trod] at hf
  | succ m =>
    rw [DataW.trod_step] at hf
    unfold DataW.trodStep at hf
    simp only [hu, Value.cells] at hf
    rw [if_pos (by rw [hn]; simpa using hcs)] at hf
    simp only [Option.map_eq_some_iff] at hf
    obtain ⟨ys, hy, _⟩ := hf
    have hall := mapM_each _ _ hy
    have hcell : ∀ i, i < n → ∃ c : UInt8, cs[i]? = some (bv c) := fun i hi => by
      obtain ⟨y, hy⟩ := hall i (List.mem_range.2 hi)
      obtain ⟨a, ea, _, wa⟩ := DataW.trod_int he hy
      refine ⟨UInt8.ofNat a.toNat, ?_⟩
      rw [← bv_of_int wa]
      rw [h1, Nat.mul_one] at ea
      have : (List.take 1 (List.drop i cs.toList))[0]? = some (.int .u8 a) := by rw [ea]; rfl
      simpa using this
    refine ⟨(List.range n).map fun i => if h : i < n then Classical.choose (hcell i h) else 0, ?_, by simp⟩
    congr 1
    apply Array.ext_getElem?
    intro i
    by_cases hi : i < n
    · rw [Classical.choose_spec (hcell i hi)]
      simp [hi]
    · rw [Array.getElem?_eq_none (by omega), Array.getElem?_eq_none (by simp; omega)]
end
end Go.Proofs.YtheljogmnalbmaaDoor
