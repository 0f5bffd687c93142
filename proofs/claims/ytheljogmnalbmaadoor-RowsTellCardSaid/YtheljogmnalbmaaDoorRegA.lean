/-
  A region that draws its order: operations behind the one that may write what the held condition names. No condition beyond those each theorem names.
-/
import Derived.Test.YtheljogmnalbmaaDoorRegL
namespace Go.Proofs.YtheljogmnalbmaaDoor
section
variable {P : Program} {md : Region.Mode} {Q : Exit → Act → World → Prop} {S : World → Prop} {n : Nat}
theorem regF_after {l rest : List Oper} {oi : Oper} {fuel : Nat} {listed : Array Bool} {a : Act} {w : World} (i : Nat) (hn : listed.getD n true = true) (hin : n ≠ i) (hd : l.drop i = oi :: rest) (hr : Region.ready md l.toArray listed = [i])
    (h : ∀ K' : Act → World → Prop, Shut (∀ a w, (True → wpAnyF P md l.toArray Q S n fuel (listed.setIfInBounds i true) a w) → K' a w) → if Region.wanted oi (yielded l.toArray a.tmps) = true then Oper.wp P oi a w K' Q else K' (a.put oi.dst undef) w) :
    wpAnyF P md l.toArray Q S n (fuel + 1) listed a w :=
  ⟨fun h0 => (by rw [hr] at h0; cases h0), fun j hj => by
    rw [hr, List.mem_singleton] at hj
    subst hj
    exact wpOp_step (op_at hd) (fun K' hK => h K' (fun a w hW => hK a w ⟨fun _ h0 => (by rw [hn] at h0; cases h0), hW trivial⟩))⟩
theorem regF_takeA {l rest : List Oper} {oi : Oper} {v : Value} {fuel : Nat} {listed : Array Bool} {a : Act} {w : World} (i : Nat) (hn : listed.getD n true = true) (hin : i ≠ n) (hd : l.drop i = oi :: rest)
    (hs : Region.noSelect l.toArray = true) (hf : Region.free md l.toArray listed i = true) (hr : (Region.ready md l.toArray listed).contains i = true)
    (hQ : ∀ c a w, Q (.panic c) (a.put oi.dst v) w → Q (.panic c) a w) (hy : YieldsIf P l.toArray (fun _ => True) oi v a)
    (h : wpAnyF P md l.toArray Q S n fuel (listed.setIfInBounds i true) (a.put oi.dst v) w) : wpAnyF P md l.toArray Q S n (fuel + 1) listed a w :=
  wpAnyF_firstT hin (op_at hd) (Region.noSelect_spec hs) hQ fuel listed a w (Region.free_spec (op_at hd) hf) (by simpa using hr) hy (fun _ h0 => by rw [hn] at h0; cases h0) h
end
end Go.Proofs.YtheljogmnalbmaaDoor
