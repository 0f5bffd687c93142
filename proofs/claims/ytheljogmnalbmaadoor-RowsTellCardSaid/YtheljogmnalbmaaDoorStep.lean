/-
  An append of any source at a step of a region that draws its order. No condition beyond those the theorem names.
-/
import Derived.Test.YtheljogmnalbmaaDoorKit
import Derived.Deep.RegionHeld3
namespace Go.Proofs.YtheljogmnalbmaaDoor
section
variable {P : Program} {w : World}
theorem step_app {ops : Array Oper} {o : Oper} {a : Act} {K : Act → World → Prop} {Q : Exit → Act → World → Prop} {E : Prop} (hgd : o.guard = none) (s x : Operand) (t : TypeId)
    (ho : o.op = .call { callee := .builtin .append, args := #[s, x], argTypes := #[t, t] })
    (lo : Nat) (e : TypeId) (i : TypeInfo) (z : Value) (sz bytes : Nat) (ht : P.underlying t = some (.slice e)) (hi : P.info? e = some i) (hz : i.zero = some z)
    (hsize : i.size = sz) (hby : i.bytes = bytes) (hzs : z.cells.size = sz) (hsz : 0 < sz)
    (D : Option Addr) (n c : Nat) (xs : List Value) (hs : a.eval s = .slice D n c) (hown : Own w lo e sz D n c xs)
    (A : Option Addr) (m cc lo2 : Nat) (news : List Value) (hx : a.eval x = .slice A m cc) (hr : Rd w lo2 sz A m news) (h1 : ∀ u ∈ news, u.oneCell' = true)
    (h63 : n + m ≤ maxLen) (hbytes : (n + m) * bytes ≤ 140737488355328) (hlo : lo ≤ w.heap.size)
    (h : ∀ D' c' w', Own w' lo e sz D' (n + m) c' (xs ++ news) → w.grownBy w' (rowOf D c) → (rowOf D' c' = rowOf D c ∨ rowOf D' c' = none ∨ rowOf D' c' = some w.heap.size) → K (a.put o.dst (.slice D' (n + m) c')) w') :
    if Region.wanted o (yielded ops a.tmps) = true then Oper.wp P o a w K Q else E := by
  obtain ⟨D', c', w', hrun, h2, h3, h4⟩ := run_app (P := P) w lo t o.type e i z sz bytes ht hi hz hsize hby hzs hsz D n c xs hown A m cc lo2 news hr h1 h63 hbytes hlo
  have hw : Region.wanted o (yielded ops a.tmps) = true := by simp [Region.wanted, hgd]
  rw [if_pos hw]
  unfold Oper.wp execOp
  simp only [ho, resolve, invoke, builtin, Sem.run_bind, Sem.run_pure, Result.andThen_ok, List.map_toArray, List.map_cons, List.map_nil, hs, hx, hrun]
  exact h _ _ _ h2 h3 h4
end
end Go.Proofs.YtheljogmnalbmaaDoor
