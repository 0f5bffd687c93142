/-
  A lock that came in, opened: its owner, and the row of those that wait. No condition.
-/
import Derived.Test.YtopicgodflhjcaaLockA
import Derived.Lib.SmallJoins
import Derived.ProofKit
namespace Go.Proofs.Ytopicgodflhjcaa
open Go.ChangeShapes Go.WideShapes Go.RowKit

/-- A row of ints that came in. -/
theorem ints_rd {W : World} {a : Option Addr} {len : Nat} {zs : List Int} (hz : len ≤ zs.length) (x : Addr) (ha : a = some x) (hc : ∀ i, i < zs.length → W.cell? (x.add i) = some (.int .i64 (zs.getD i 0))) : ∃ ws : List Int, Rd W 0 1 a len (ws.map iv) := by
  subst ha
  refine ⟨zs.take len, by simp; omega, fun hn => ?_⟩
  have h0 := hc 0 (by omega)
  obtain ⟨b, o, spot⟩ := x
  have hs : spot = none := by simpa [Addr.add] using World.cell?_spot h0
  subst hs
  refine ⟨b, o, rfl, Nat.zero_le _, fun j hj => ?_⟩
  have hjz : j < zs.length := by omega
  have hcj := hc j hjz
  rw [add_lit] at hcj
  have hjl : j < len := by omega
  rw [hcj]
  simp only [List.getElem?_map, List.getElem?_take, if_pos hjl, List.getElem?_eq_getElem hjz, Option.map_some, List.getD, Option.getD_some]
  rfl
theorem open_lock {H : Type} {enc : TypeId × Value → H} {W : World} {base : Nat} {sp : Nat → Bool} {held : Bool} {r : Reach} {b0 : Nat} {v : Value} {d : DataW H} {ps : List MemPlace} (hv : Value.okWide Try.prog W r b0 24 v) (hd : DataW.Trod enc Try.prog W base sp held 24 v d ps) :
    ∃ (o : Int) (A : Option Addr) (n c : Nat) (ws : List Int), v = .agg #[.int .i64 o, .slice A n c] ∧ Rd W 0 1 A n (ws.map iv) := by
  obtain ⟨v0, v1, y0, y1, n, rfl, _, _, h0, h1⟩ := Joins.open_agg2 Try.underlying24 (by kernel_rfl) (by kernel_rfl) hv hd
  obtain ⟨o, e0, _, _⟩ := DataW.trod_int Try.underlying3 h0
  simp at e0
  subst e0
  rcases open_ints Try.underlying22 Try.underlying3 (by kernel_rfl) h1 with ⟨hcs, _⟩ | ⟨x, l, c, zs, hcs, _, hl, hm, hz, _, hcell, hwz⟩
  · simp at hcs
    subst hcs
    exact ⟨o, none, 0, 0, [], rfl, Rd.nil _ _ _ _⟩
  · simp at hcs
    subst hcs
    obtain ⟨ws, hR⟩ := ints_rd (W := W) (by rw [hz]; split <;> omega) x rfl hcell
    exact ⟨o, some x, l, c, ws, rfl, hR⟩
end Go.Proofs.Ytopicgodflhjcaa
