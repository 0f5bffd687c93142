/-
  A region that draws its order, walked by hand: the steps of Derived/Deep/RegionHeld3's walk, the operation read off the list by unification. No condition beyond those each theorem names.
-/
import Derived.Test.YtheljogmnalbmaaDoorKit
import Derived.Deep.RegionHeld3
namespace Go.Proofs.YtheljogmnalbmaaDoor
section
variable {P : Program} {md : Region.Mode} {Q : Exit → Act → World → Prop} {S : World → Prop}
theorem op_at {l rest : List Oper} {i : Nat} {o : Oper} (hd : l.drop i = o :: rest) : l.toArray[i]? = some o := by
  rw [List.getElem?_toArray]
  have : (l.drop i)[0]? = some o := by rw [hd]; rfl
  simpa using this
/-- An operation that only reads, or only reckons: taken first. -/
theorem reg_take {l rest : List Oper} {oi : Oper} {v : Value} {fuel : Nat} {listed : Array Bool} {a : Act} {w : World} (i : Nat) (hd : l.drop i = oi :: rest)
    (hs : Region.noSelect l.toArray = true) (hf : Region.free md l.toArray listed i = true) (hr : (Region.ready md l.toArray listed).contains i = true)
    (hQ : ∀ c a w, Q (.panic c) (a.put oi.dst v) w → Q (.panic c) a w) (hy : YieldsIf P l.toArray S oi v a) (hS : S w)
    (h : wpAnyH P md l.toArray Q S fuel (listed.setIfInBounds i true) (a.put oi.dst v) w) : wpAnyH P md l.toArray Q S (fuel + 1) listed a w :=
  wpAnyH_take (op_at hd) hs hf hr hQ hy hS h
/-- The only operation that may come up. -/
theorem reg_only {l rest : List Oper} {oi : Oper} {fuel : Nat} {listed : Array Bool} {a : Act} {w : World} (i : Nat) (hd : l.drop i = oi :: rest) (hr : Region.ready md l.toArray listed = [i])
    (h : ∀ K' : Act → World → Prop, Shut (∀ a w, S w → (S w → wpAnyH P md l.toArray Q S fuel (listed.setIfInBounds i true) a w) → K' a w) → if Region.wanted oi (yielded l.toArray a.tmps) = true then Oper.wp P oi a w K' Q else K' (a.put oi.dst undef) w) :
    wpAnyH P md l.toArray Q S (fuel + 1) listed a w :=
  wpAnyH_ready hr (by simp) (AllReadyH.cons (op_at hd) h AllReadyH.nil)
end
end Go.Proofs.YtheljogmnalbmaaDoor
