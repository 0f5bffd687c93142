/-
  What the row's listed variable gives the walks: the table k stands in its cells. And a start that meets the condition.
-/
import Derived.Test.YtheljogmnalbmaaDoorShaH
import Derived.ProofKit
import Derived.LaidMore
import Derived.OpenShut
import Derived.Stop.Joined
namespace Go.Proofs.YtheljogmnalbmaaDoor
open Go.ChangeShapes Go.WideShapes Go.ChangeAt Go.RowKit

theorem gK : Tryd.prog.globalNamed "beadroll/sha.k" = some 0 := by kernel_rfl
theorem tK : (Tryd.prog.globals[0]?).map (·.type) = some 81 := by kernel_rfl
theorem laid_eq : (Rows.laid_beadroll_sha_k : DataW Unit) = .agg (kList.map fun u => .lit (.int .u32 (u.toNat : Int))) := rfl
theorem kList_len : kList.length = 64 := rfl

/-- The start meets the condition. -/
theorem door_met (os : Os) (args : Array Value) : laidMetH Tryd.prog [("beadroll/sha.k", Rows.laid_beadroll_sha_k)] ((World.doorLaid Tryd.prog 4000 os).forCall (fun _ _ => 0) ⟨#[], args, []⟩).memory :=
  laidMetH_of_parts3 (fuel := 8) (laidMet_of_run' 8 (by kernel_rfl) (by kernel_rfl)) (by kernel_rfl) (by kernel_rfl)

theorem kok_of_laid {W : World} (h : laidMetH Tryd.prog [("beadroll/sha.k", Rows.laid_beadroll_sha_k)] W) : KOk W := by
  rw [MakeChecks.laidMetH_plain _ _ _ (by kernel_rfl)] at h
  obtain ⟨ps, ⟨g0, t0, cs0, f0, p0, q0, hg0, ht0, hv0, hd0, _, _⟩, _, _⟩ := h
  obtain rfl := Option.some.inj (gK.symm.trans hg0)
  obtain rfl := Option.some.inj (tK.symm.trans ht0)
  obtain ⟨xs, m1, rfl, hx1, hlen, hn3, hel⟩ := DataW.trod_array Tryd.underlying81 hd0
  have c1 : Tryd.prog.cellsOf 69 = 1 := by kernel_rfl
  rw [laid_eq] at hx1
  simp only [Prod.mk.injEq, DataW.agg.injEq] at hx1
  intro t ht
  have h0 := hel t ht
  rw [c1, Nat.mul_one] at h0
  have hxt : xs[t]? = some (xs[t]'(by omega)) := List.getElem?_eq_getElem (by omega)
  rw [hxt] at h0
  obtain ⟨k, e1, e2, _⟩ := DataW.trod_int Tryd.underlying69 h0
  have hk : (xs.map (·.1))[t]? = some (.lit (.int .u32 k)) := by
    rw [List.getElem?_map, hxt]
    simp [e2]
  rw [← hx1.1, List.getElem?_map, List.getElem?_eq_getElem (by rw [kList_len]; exact ht)] at hk
  simp only [Option.map_some, Option.some.injEq, DataW.lit.injEq, Lit.int.injEq, true_and] at hk
  have hc := World.var?_cell hg0 hv0 t
  rw [hc]
  have e3 : (cs0.toList.drop t)[0]? = some (.int .u32 k) := by
    have := congrArg (fun l => l[0]?) e1
    simpa using this
  rw [List.getElem?_drop, Nat.add_zero] at e3
  rw [← hk] at e3
  simp only [Array.getElem?_toList] at e3
  rw [e3]
  unfold uv kAt
  rw [List.getD_eq_getElem?_getD, List.getElem?_eq_getElem (by rw [kList_len]; exact ht)]
  rfl
end Go.Proofs.YtheljogmnalbmaaDoor
