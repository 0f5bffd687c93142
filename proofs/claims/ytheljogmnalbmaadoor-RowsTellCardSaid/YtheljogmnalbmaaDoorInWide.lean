/-
  Plain laws of the walk, carried into a round of a range over a function (no fence but the widest). Over any program; no condition beyond those each theorem names.
-/
import Derived.Test.YtheljogmnalbmaaDoorGuards
import Derived.RangeFuncNested
import Derived.RangeFuncBound
import Derived.RangeFuncCalls
import Derived.RangeFuncLeaves
import Derived.RangeFuncBox
import Derived.Shelf.Abstract
import Derived.Shelf.RegionOpen
import Derived.OwnWalkIn
import Derived.TacticsInMore
import Derived.LoopNIn
import Derived.LoopIn
namespace Go.Proofs.YtheljogmnalbmaaDoor
open Go.RowKit Go.Shelf
section
variable {P : Program} {l n : Nat} {ops : Array Oper} {rest : List Oper} {o : Oper} {a : Act} {w : World} {Q : Exit → Act → World → Prop}
theorem wpIn_of_wp_round {K : Act → World → Prop} (hd : ∀ c, o.op ≠ .defer c) (h : Oper.wp P o a w K Q) : o.wpIn (Fence.wide.inRound l) n P a w K Q := by
  refine ⟨fun f _ => trivial, ?_⟩
  rw [Oper.semAt_plain _ _ _ hd]
  unfold Oper.wp at h
  revert h
  cases (execOp a.eval o).run P w with
  | ok r w' =>
    cases r with
    | value v => exact id
    | skip => exact id
    | defer d => exact id
    | enter f args => exact fun h => ⟨fun e => (by cases e), (callsIn_wide.2 h).inRound l⟩
    | row r args => exact fun h => ⟨fun e => (by cases e), fun c cs _ => let ⟨v, w', q, s⟩ := h c cs; ⟨v, w', q, stepsIn_wide.2 s⟩⟩
    | round l' f tmps assign body => exact fun h => h.elim
    | _ => exact fun h => h.elim
  | halt v w' =>
    cases v <;> first | exact id | exact fun h => h.elim
theorem wpListIn_op (hg : o.guard = none) (hd : ∀ c, o.op ≠ .defer c) (h : ∀ K : Act → World → Prop, (∀ a w, wpListIn (Fence.wide.inRound l) n P ops Q rest a w → K a w) → Oper.wp P o a w K Q) : wpListIn (Fence.wide.inRound l) n P ops Q (o :: rest) a w :=
  wpListIn_plain hg fun K hK => wpIn_of_wp_round hd (h K hK)
theorem wpListIn_al (hg : o.guard = none) (t : TypeId) (ho : o.op = .alloc t) (cells : Array Value) (hx : (zeroValue t).run P w = .ok (.agg cells) w)
    (h : ∀ w', Blk w' w.heap.size t cells → Below w.heap.size w w' → w'.heap.size = w.heap.size + 1 → wpListIn (Fence.wide.inRound l) n P ops Q rest (a.put o.dst (.pointer (some ⟨w.heap.size, 0, none⟩))) w') : wpListIn (Fence.wide.inRound l) n P ops Q (o :: rest) a w := by
  refine wpListIn_op hg (fun c e => by rw [ho] at e; cases e) fun K hK => ?_
  unfold Oper.wp execOp
  simp only [ho, Sem.run_bind, Instr.alloc, hx, newVar, newRow, run_newObj_alloc, Sem.run_pure, Result.andThen_ok, Value.cells]
  exact hK _ _ (h _ (Blk.new w t cells) (below_alloc1 w _) (by simp))
theorem wpListIn_str (hgd : o.guard = none) (ty : TypeId) (x y : Operand) (ho : o.op = .store ty x y)
    (g : Nat) (vs : Array Value) (hx : a.eval x = .pointer (some ⟨g, 0, none⟩)) (hy : a.eval y = .agg vs) (t : TypeId) (cs : Array Value) (hg : Blk w g t cs) (hs : vs.size = cs.size)
    (hi : (P.info? ty).map (·.size) = some cs.size) (h1 : ∀ v ∈ vs, v.oneCell' = true)
    (h : ∀ w', Blk w' g t vs → w.grownBy w' (some g) → w'.heap.size = w.heap.size → wpListIn (Fence.wide.inRound l) n P ops Q rest (a.put o.dst undef) w') : wpListIn (Fence.wide.inRound l) n P ops Q (o :: rest) a w := by
  obtain ⟨h2, h3, h4⟩ := hg.over vs hs
  refine wpListIn_op hgd (fun c e => by rw [ho] at e; cases e) fun K hK => ?_
  refine wp_store_mid ty x y ho g 0 vs hx hy (fun j hj => ?_) (by rw [hs]; exact hi) (Array.all_eq_true_iff_forall_mem.2 h1) (hK _ _ (h _ h2 h3 h4))
  refine ⟨?_, hg.frozen _⟩
  rw [Nat.zero_add, hg.cell j, Array.getElem?_eq_getElem (by omega)]
  rfl
theorem wpAnyIn_two {md : Region.Mode} {F : Fence} {fuel : Nat} {listed : Array Bool} (i j : Nat) (hr : Region.ready md ops listed = [i, j]) (h1 : wpOpIn F n P ops Q i (wpAnyIn F n P md ops Q fuel (listed.setIfInBounds i true)) a w) (h2 : wpOpIn F n P ops Q j (wpAnyIn F n P md ops Q fuel (listed.setIfInBounds j true)) a w) : wpAnyIn F n P md ops Q (fuel + 1) listed a w :=
  ⟨fun h0 => (by rw [hr] at h0; cases h0), fun k hk => by
    rw [hr] at hk
    simp only [List.mem_cons, List.not_mem_nil, or_false] at hk
    rcases hk with rfl | rfl
    · exact h1
    · exact h2⟩
theorem wpAnyIn_only {md : Region.Mode} {F : Fence} {fuel : Nat} {listed : Array Bool} (i : Nat) (hr : Region.ready md ops listed = [i]) (h1 : wpOpIn F n P ops Q i (wpAnyIn F n P md ops Q fuel (listed.setIfInBounds i true)) a w) : wpAnyIn F n P md ops Q (fuel + 1) listed a w :=
  ⟨fun h0 => (by rw [hr] at h0; cases h0), fun k hk => by
    rw [hr] at hk
    simp only [List.mem_singleton] at hk
    subst hk
    exact h1⟩
theorem wpAnyIn_done {md : Region.Mode} {F : Fence} {fuel : Nat} {listed : Array Bool} (hr : Region.ready md ops listed = []) (h : Q .normal a w) : wpAnyIn F n P md ops Q fuel listed a w := by
  cases fuel with
  | zero => exact ⟨hr, h⟩
  | succ fuel => exact ⟨fun _ => h, by rw [hr]; simp⟩
theorem wpOpIn_op {K : Act → World → Prop} {i : Nat} (hi : ops[i]? = some o) (hg : o.guard = none) (hd : ∀ c, o.op ≠ .defer c) (h : Oper.wp P o a w K Q) : wpOpIn (Fence.wide.inRound l) n P ops Q i K a w := by
  unfold wpOpIn
  rw [hi]
  simp only [Region.wanted, hg, if_true]
  exact wpIn_of_wp_round hd h
theorem wpAnyIn_onlyK {md : Region.Mode} {fuel : Nat} {listed : Array Bool} (i : Nat) (hr : Region.ready md ops listed = [i]) (hi : ops[i]? = some o) (hg : o.guard = none) (hd : ∀ c, o.op ≠ .defer c)
    (h : ∀ K : Act → World → Prop, (∀ a w, wpAnyIn (Fence.wide.inRound l) n P md ops Q fuel (listed.setIfInBounds i true) a w → K a w) → Oper.wp P o a w K Q) : wpAnyIn (Fence.wide.inRound l) n P md ops Q (fuel + 1) listed a w :=
  wpAnyIn_only i hr (wpOpIn_op hi hg hd (h _ fun _ _ h => h))
theorem wpAnyIn_twoK {md : Region.Mode} {fuel : Nat} {listed : Array Bool} {o2 : Oper} (i j : Nat) (hr : Region.ready md ops listed = [i, j]) (hi : ops[i]? = some o) (hj : ops[j]? = some o2) (hg : o.guard = none) (hg2 : o2.guard = none) (hd : ∀ c, o.op ≠ .defer c) (hd2 : ∀ c, o2.op ≠ .defer c)
    (h : ∀ K : Act → World → Prop, (∀ a w, wpAnyIn (Fence.wide.inRound l) n P md ops Q fuel (listed.setIfInBounds i true) a w → K a w) → Oper.wp P o a w K Q)
    (h2 : ∀ K : Act → World → Prop, (∀ a w, wpAnyIn (Fence.wide.inRound l) n P md ops Q fuel (listed.setIfInBounds j true) a w → K a w) → Oper.wp P o2 a w K Q) : wpAnyIn (Fence.wide.inRound l) n P md ops Q (fuel + 1) listed a w :=
  wpAnyIn_two i j hr (wpOpIn_op hi hg hd (h _ fun _ _ h => h)) (wpOpIn_op hj hg2 hd2 (h2 _ fun _ _ h => h))
theorem op_app {K : Act → World → Prop} (s x : Operand) (t : TypeId)
    (ho : o.op = .call { callee := .builtin .append, args := #[s, x], argTypes := #[t, t] })
    (lo : Nat) (e : TypeId) (i : TypeInfo) (z : Value) (sz bytes : Nat) (ht : P.underlying t = some (.slice e)) (hi : P.info? e = some i) (hz : i.zero = some z)
    (hsize : i.size = sz) (hby : i.bytes = bytes) (hzs : z.cells.size = sz) (hsz : 0 < sz)
    (D : Option Addr) (m c : Nat) (xs : List Value) (hs : a.eval s = .slice D m c) (hown : Own w lo e sz D m c xs)
    (A : Option Addr) (k cc lo2 : Nat) (news : List Value) (hx : a.eval x = .slice A k cc) (hr : Rd w lo2 sz A k news) (h1 : ∀ u ∈ news, u.oneCell' = true)
    (h63 : m + k ≤ maxLen) (hbytes : (m + k) * bytes ≤ 140737488355328) (hlo : lo ≤ w.heap.size)
    (h : ∀ D' c' w', Own w' lo e sz D' (m + k) c' (xs ++ news) → w.grownBy w' (rowOf D c) → (rowOf D' c' = rowOf D c ∨ rowOf D' c' = none ∨ rowOf D' c' = some w.heap.size) → K (a.put o.dst (.slice D' (m + k) c')) w') : Oper.wp P o a w K Q := by
  obtain ⟨D', c', w', hrun, h2, h3, h4⟩ := run_app (P := P) w lo t o.type e i z sz bytes ht hi hz hsize hby hzs hsz D m c xs hown A k cc lo2 news hr h1 h63 hbytes hlo
  unfold Oper.wp execOp
  simp only [ho, resolve, invoke, builtin, Sem.run_bind, Sem.run_pure, Result.andThen_ok, List.map_toArray, List.map_cons, List.map_nil, hs, hx, hrun]
  exact h _ _ _ h2 h3 h4
theorem KeepsFrom.of_chg {B : Nat} {W W' : World} {bad : Nat → Prop} (hc : Chg W W' bad) (hb : ∀ b o, bad b → W.heap[b]? = some o → o.isCells = true) : KeepsFrom B W W' :=
  ⟨hc.size, fun i ob _ hi ho => by
    rw [hc.block i (Array.getElem?_eq_some_iff.1 hi).1 (fun h => by rw [hb i ob h hi] at ho; cases ho)]
    exact hi⟩
end
section
variable {A B : World} {row : Option Nat}
theorem kept_blk {g : Nat} {t : TypeId} {cs : Array Value} (h : Blk A g t cs) (hg : A.grownBy B row) (hr : ∀ r, row = some r → ∃ o : Obj, A.heap[r]? = some o ∧ o.isCells = false) : Blk B g t cs :=
  h.grown hg (fun e => by
    obtain ⟨o, ho, hc⟩ := hr g e.symm
    have h' : A.heap[g]? = some (.cells cs t (0, 0)) := h
    rw [h'] at ho
    cases ho
    cases hc)
theorem kept_own {lo sz n c : Nat} {e : TypeId} {D : Option Addr} {xs : List Value} (h : Own A lo e sz D n c xs) (hg : A.grownBy B row) (hr : ∀ r, row = some r → ∃ o : Obj, A.heap[r]? = some o ∧ o.isCells = false) : Own B lo e sz D n c xs := by
  rcases h with h | ⟨g, cur, rfl, hlo, hh, r⟩
  · exact .inl h
  · exact .inr ⟨g, cur, rfl, hlo, kept_blk (g := g) hh hg hr, r⟩
theorem kept_rd {sz n : Nat} {D : Option Addr} {xs : List Value} (h : Rd A 0 sz D n xs) (hg : A.grownBy B row) (hr : ∀ r, row = some r → ∃ o : Obj, A.heap[r]? = some o ∧ o.isCells = false) : Rd B 0 sz D n xs :=
  ⟨h.1, fun hn => by
    obtain ⟨b, o, e, hlo, hc⟩ := h.2 hn
    refine ⟨b, o, e, hlo, fun j hj => ?_⟩
    have h1 := hc j hj
    rw [List.getElem?_eq_getElem (by rw [h.1]; exact hj)] at h1 ⊢
    exact cell_kept h1 hg hr⟩
end
end Go.Proofs.YtheljogmnalbmaaDoor
