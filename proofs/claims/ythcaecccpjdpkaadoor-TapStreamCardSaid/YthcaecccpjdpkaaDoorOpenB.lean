/-
  A slice of bools that came in, opened; the law TapStream over what came in. No condition but that the gap stands in its variable.
-/
import Derived.Test.YthcaecccpjdpkaaDoorTapJ
import Derived.Test.YthcaecccpjdpkaaDoorTapLaid
import Derived.Deep.Grids
namespace Go.Proofs.YthcaecccpjdpkaaDoor
open Go.ChangeShapes Go.WideShapes Go.ChangeAt Go.RowKit
set_option linter.unusedVariables false
theorem open_bsl {H : Type} {enc : TypeId × Value → H} {W : World} {base : Nat} {held : Bool} {r : Reach} {b0 : Nat} {v : Value} {d : DataW H} {ps : List MemPlace} (hv : Value.okWide Tryd.prog W r b0 43 v) (hd : DataW.Trod enc Tryd.prog W base (fun _ => true) held 43 v d ps) :
    ∃ (A : Option Addr) (n c : Nat) (vs : List Bool), v = .slice A n c ∧ Rd W 0 1 A n (vs.map Value.bool) := by
  obtain ⟨A, n, c, rfl⟩ := okWide_slice Tryd.underlying43 hv
  obtain ⟨fuel, hf⟩ := hd
  rcases Go.Deep.open_bools Tryd.underlying43 Tryd.underlying4 (by kernel_rfl) hf with ⟨hcs, _⟩ | ⟨x, l, k, B, hcs, _, hl, hm, _, hcell⟩
  · simp [Value.cells] at hcs
    obtain ⟨rfl, rfl, rfl⟩ := hcs
    exact ⟨none, 0, 0, [], rfl, Rd.nil _ _ _ _⟩
  · simp [Value.cells] at hcs
    obtain ⟨rfl, rfl, rfl⟩ := hcs
    refine ⟨some x, n, c, (List.range n).map B, rfl, by simp, fun hn => ?_⟩
    have h0 := hcell 0 (by omega)
    obtain ⟨b, o, spot⟩ := x
    have hs : spot = none := by simpa [Addr.add] using World.cell?_spot h0
    subst hs
    refine ⟨b, o, rfl, Nat.zero_le _, fun j hj => ?_⟩
    have hcj := hcell j (by omega)
    rw [add_lit] at hcj
    rw [hcj]
    have hjn : j < n := by omega
    simp [hjn]
namespace tapStream
theorem tapStream_law {W : World} (room : Int) (hw : (Lit.int .i64 room).wf = true) (S : Option Addr) (k ck : Nat) (sc : List Bool) (hS : Rd W 0 1 S k (sc.map Value.bool)) (hG : GOk W) :
    Calls Tryd.prog 4 #[.int .i64 room, .slice S k ck] W fun e w' => e = .returned (.bool true) ∧ Below W.heap.size W w' := by
  by_cases h : room < 1 ∨ 64 < room ∨ 60 < k
  · exact tstream_out room S k ck W hG h
  · exact tstream_in room S k ck sc W hG (by omega) (by omega) (by omega) hS
end tapStream
end Go.Proofs.YthcaecccpjdpkaaDoor
