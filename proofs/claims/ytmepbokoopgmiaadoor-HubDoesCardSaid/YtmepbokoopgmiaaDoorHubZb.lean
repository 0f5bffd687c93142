/-
  Contracts of the reference's Check and Twin of hubs. No condition beyond those each theorem names.
-/
import Derived.Test.YtmepbokoopgmiaaDoorHubZa
import Derived.Test.YtmepbokoopgmiaaDoorHubD
namespace Go.Proofs.YtmepbokoopgmiaaDoor
open Go.RowKit
set_option linter.unusedSimpArgs false
set_option linter.unusedVariables false

theorem check24_lit (q : Bool) (h : Hub) (hq : hubMay h = q) (A : Option Addr) (n c : Nat) (w : World) (hh : HubIn w h A n) :
    Calls Tryd.prog 23 #[.agg #[.int .i64 h.1, .slice A n c]] w (GivesN w (errOf q)) := by
  have hM := hid (fun W (k : HubIn W h A n) => hmay_any h A n c W k)
  rw [hq] at hM
  have HH := hid hh
  clear hq hh
  generalize h.1 = nx at *
  cases q
  all_goals
    go_enter Tryd.func23, Tryd.ntmps23
    go_wp2_with (first
      | (refine wpList_bx rfl 24 _ rfl #[.int .i64 nx, .slice A n c] rfl ?_; intro w1 hB1 hb1 hz1; obtain ⟨a0, a1, _, _⟩ := two_facts hB1)
      | ((with_reducible refine (hM.out _ (HH.out.below hb1)).mono ?_); rintro e w2 ⟨rfl, hb2⟩))
    go_ret
    exact ⟨rfl, below_chain hb1 hb2⟩

theorem sub_bsliceV (a b : Int) (D : Option Addr) (n c : Nat) (l : Bool) (w : World) : (Instr.buildSlice 22 1 #[(0, .agg #[.int .i64 a, .int .i64 b, .slice D n c, .bool l])]).run Tryd.prog w = .ok (.slice (some ⟨w.heap.size, 0, none⟩) 1 1) (w.alloc (.cells #[.int .i64 a, .int .i64 b, .slice D n c, .bool l] 53)) := by
  obtain ⟨i0, hi0, hz0, hz1, hz2⟩ := info_parts sub_info
  refine run_buildSlice w _ _ _ _ _ i0 _ Tryd.underlying22 hi0 hz0 (by rw [hz1]; omega) (by rw [hz1]; omega) ?_
  rw [hz1]
  have := Great.fill_whole (s := 4) (by omega) [Value.agg #[.int .i64 a, .int .i64 b, .slice D n c, .bool l]] ((Array.range (1 * 4)).map ((Value.agg zeroS).cells[· % (Value.agg zeroS).cells.size]!)) (fun v hv => by
    simp only [List.mem_singleton] at hv
    subst hv
    rfl) (by simp)
  exact this
/-- A row pushed behind a hub of the call's own: its items lie in newer memory than the hub's row. -/
theorem HOwn.pushR {w w' : World} {lo m d d' : Nat} {D D' : Option Addr} {rs : List RS} (h : HOwn w lo D m d rs) (r : RS) (hr : SubOwn w lo (rowOf D d) r) (ho : Own w' lo 53 4 D' (m + 1) d' (rssL rs ++ rsL r)) (hg : w.grownBy w' (rowOf D d))
    (hat : rowOf D' d' = rowOf D d ∨ rowOf D' d' = none ∨ rowOf D' d' = some w.heap.size) : HOwn w' lo D' (m + 1) d' (rs ++ [r]) := by
  refine ⟨?_, fun q hq => ?_⟩
  · rw [rssL_app]
    simpa [rssL] using ho
  · rcases List.mem_append.1 hq with hq | hq
    · exact (h.2 q hq).regrow hg hat
    · simp only [List.mem_singleton] at hq
      subst hq
      exact hr.regrow hg hat
theorem SubOwn.new {w w' : World} {lo n c : Nat} {g : Option Nat} {D : Option Addr} (s : Sub) (ho : ItsOk s.2.2.1) (h : Own w' w.heap.size 36 101 D n c (itsL s.2.2.1)) (hlo : lo ≤ w.heap.size) (hg : ∀ b, g = some b → b < w.heap.size) : SubOwn w' lo g (s, D, n, c) := by
  refine ⟨ho, h.fr.low hlo, fun hm b o e e2 => ?_⟩
  simp only at e hm
  obtain ⟨b', o', e', hl, _⟩ := h.rd.2 (by omega)
  rw [e] at e'
  cases e'
  have := hg b e2.symm
  omega
end Go.Proofs.YtmepbokoopgmiaaDoor
