/-
  append at a guarded operation ('a && f(append(b, c...))'): the law of the kit once more, the guard's yes as a premise. Over any program; no condition beyond those it names.
-/
import Derived.Test.YtffgkjcfffkahaaKit
namespace Go.Proofs.Ytffgkjcfffkahaa
open Go.RowKit
variable {P : Program} (w : World)
theorem wpList_app_g {ops : Array Oper} {rest : List Oper} {o : Oper} {a : Act} {Q : Exit → Act → World → Prop} (hgd : Region.wanted o (yielded ops a.tmps) = true) (s x : Operand) (t : TypeId)
    (ho : o.op = .call { callee := .builtin .append, args := #[s, x], argTypes := #[t, t] })
    (lo : Nat) (e : TypeId) (i : TypeInfo) (z : Value) (sz bytes : Nat) (ht : P.underlying t = some (.slice e)) (hi : P.info? e = some i) (hz : i.zero = some z)
    (hsize : i.size = sz) (hby : i.bytes = bytes) (hzs : z.cells.size = sz) (hsz : 0 < sz)
    (D : Option Addr) (n c : Nat) (xs : List Value) (hs : a.eval s = .slice D n c) (hown : Own w lo e sz D n c xs)
    (A : Option Addr) (m cc lo2 : Nat) (news : List Value) (hx : a.eval x = .slice A m cc) (hr : Rd w lo2 sz A m news) (h1 : ∀ u ∈ news, u.oneCell' = true)
    (h63 : n + m ≤ maxLen) (hbytes : (n + m) * bytes ≤ 140737488355328) (hlo : lo ≤ w.heap.size)
    (h : ∀ D' c' w', Own w' lo e sz D' (n + m) c' (xs ++ news) → w.grownBy w' (rowOf D c) → (rowOf D' c' = rowOf D c ∨ rowOf D' c' = none ∨ rowOf D' c' = some w.heap.size) → wpList P ops Q rest (a.put o.dst (.slice D' (n + m) c')) w') :
    wpList P ops Q (o :: rest) a w := by
  obtain ⟨D', c', w', hrun, h2, h3, h4⟩ := run_app (P := P) w lo t o.type e i z sz bytes ht hi hz hsize hby hzs hsz D n c xs hown A m cc lo2 news hr h1 h63 hbytes hlo
  refine wpList_step fun K hK => ?_
  rw [if_pos hgd]
  unfold Oper.wp execOp
  simp only [ho, resolve, invoke, builtin, Sem.run_bind, Sem.run_pure, Result.andThen_ok, List.map_toArray, List.map_cons, List.map_nil, hs, hx, hrun]
  exact hK _ _ (h D' c' w' h2 h3 h4)
end Go.Proofs.Ytffgkjcfffkahaa
