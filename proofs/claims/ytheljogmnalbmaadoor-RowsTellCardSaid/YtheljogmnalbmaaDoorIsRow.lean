/-
  Slices of bytes that came in, as the frames open them. No condition beyond those each theorem names.
-/
import Derived.Test.YtheljogmnalbmaaDoorKit
namespace Go.Proofs.YtheljogmnalbmaaDoor
open Go.RowKit

theorem byte_of (x : Int) (h0 : 0 ≤ x) (h : x < 256) : Value.int .u8 x = bv (UInt8.ofNat x.toNat) := by
  unfold bv
  congr 1
  rw [UInt8.toNat_ofNat']
  omega
/-- What a walk is told of a slice of integers that came in: it is nil; or it leads to a row of 'cap' cells. -/
def IsRow (k : IntKind) (w : World) (a : Option Addr) (len cap : Nat) (zs : List Int) : Prop :=
  (a = none ∧ len = 0 ∧ cap = 0 ∧ zs = []) ∨
  ∃ x, a = some x ∧ len ≤ cap ∧ cap ≤ maxLen ∧ zs.length = cap ∧ (∀ i, i < zs.length → w.cell? (x.add i) = some (.int k (zs.getD i 0))) ∧ ∀ n ∈ zs, (Lit.int k n).wf = true
theorem byte_wf {x : Int} (h : (Lit.int .u8 x).wf = true) : 0 ≤ x ∧ x < 256 := by
  simp [Lit.wf, IntKind.min, IntKind.max, IntKind.signed, IntKind.bits] at h
  exact ⟨by omega, by omega⟩
theorem isRow_rd {w : World} {a : Option Addr} {len cap : Nat} {zs : List Int} (h : IsRow .u8 w a len cap zs) : len ≤ cap ∧ ∃ bs : List UInt8, Rd w 0 1 a len (bs.map bv) := by
  rcases h with ⟨rfl, rfl, rfl, rfl⟩ | ⟨x, rfl, hl, hm, hz, hc, hw⟩
  · exact ⟨Nat.le_refl _, [], Rd.nil _ _ _ _⟩
  · refine ⟨hl, (zs.take len).map fun z => UInt8.ofNat z.toNat, ?_, fun hn => ?_⟩
    · simp
      omega
    · have h0 := hc 0 (by omega)
      obtain ⟨b, o, spot⟩ := x
      have hs : spot = none := by simpa [Addr.add] using World.cell?_spot h0
      subst hs
      refine ⟨b, o, rfl, Nat.zero_le _, fun j hj => ?_⟩
      have hjz : j < zs.length := by omega
      have hcj := hc j hjz
      rw [add_lit] at hcj
      have hwj := byte_wf (hw zs[j] (List.getElem_mem hjz))
      rw [hcj]
      have hjl : j < len := by omega
      simp only [List.getElem?_map, List.getElem?_take, if_pos hjl, List.getElem?_eq_getElem hjz, Option.map_some, List.getD, Option.getD_some]
      rw [← byte_of _ hwj.1 hwj.2]
end Go.Proofs.YtheljogmnalbmaaDoor
