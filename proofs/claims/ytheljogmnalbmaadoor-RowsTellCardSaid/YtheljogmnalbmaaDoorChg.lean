/-
  Words on what a call may have changed; a whole row stored at a step of a drawn region; results that lie in two variables. Over any program; no condition beyond those each theorem names.
-/
import Derived.Test.YtheljogmnalbmaaDoorArr
import Derived.Test.YtheljogmnalbmaaDoorReg
import Derived.Test.YtheljogmnalbmaaDoorStep
namespace Go.Proofs.YtheljogmnalbmaaDoor
open Go.RowKit

/-- What may have changed: the blocks of 'bad', and new ones. -/
structure Chg (w w' : World) (bad : Nat → Prop) : Prop where
  os : w'.os = w.os
  tape : w'.tape = w.tape
  output : w'.output = w.output
  size : w.heap.size ≤ w'.heap.size
  block : ∀ b, b < w.heap.size → ¬ bad b → w'.heap[b]? = w.heap[b]?
theorem Chg.below {w w' : World} {bad : Nat → Prop} (h : Chg w w' bad) {B : Nat} (hB : B ≤ w.heap.size) (hb : ∀ b, bad b → B ≤ b) : Below B w w' :=
  ⟨h.os, h.tape, h.output, h.size, fun b hl => h.block b (by omega) (fun hx => by have := hb b hx; omega)⟩
theorem Chg.of_grown {w w' : World} {row : Option Nat} (h : w.grownBy w' row) : Chg w w' (fun b => row = some b) := ⟨h.os, h.tape, h.output, h.size, fun b hl hn => h.block b hl (fun e => hn e.symm)⟩
theorem Chg.trans {w1 w2 w3 : World} {b1 b2 bad : Nat → Prop} (h : Chg w1 w2 b1) (k : Chg w2 w3 b2) (h1 : ∀ b, b1 b → bad b) (h2 : ∀ b, b < w1.heap.size → b2 b → bad b) : Chg w1 w3 bad :=
  ⟨k.os.trans h.os, k.tape.trans h.tape, k.output.trans h.output, Nat.le_trans h.size k.size, fun b hl hn => (k.block b (Nat.lt_of_lt_of_le hl h.size) (fun hx => hn (h2 b hl hx))).trans (h.block b hl (fun hx => hn (h1 b hx)))⟩
theorem Chg.setCell {w w' : World} {bad : Nat → Prop} (h : Chg w w' bad) {g i : Nat} (u : Value) (hg : bad g ∨ w.heap.size ≤ g) : Chg w (w'.setCell ⟨g, i, none⟩ u) bad :=
  ⟨h.os, h.tape, h.output, by simpa [World.setCell] using h.size, fun b hl hn => (Below.heap_setCell w' ⟨g, i, none⟩ u b (by
    intro (e : b = g)
    rcases hg with hg | hg
    · exact hn (e ▸ hg)
    · omega)).trans (h.block b hl hn)⟩
theorem Chg.alloc {w w' : World} {bad : Nat → Prop} (h : Chg w w' bad) (o : Obj) : Chg w (w'.alloc o) bad :=
  ⟨h.os, h.tape, h.output, by have := h.size; simp; omega, fun b hl hn => (Below.heap_alloc w' o b (Nat.lt_of_lt_of_le hl h.size)).trans (h.block b hl hn)⟩
theorem Chg.refl (w : World) (bad : Nat → Prop) : Chg w w bad := ⟨rfl, rfl, rfl, Nat.le_refl _, fun _ _ _ => rfl⟩
theorem Chg.blk {w w' : World} {bad : Nat → Prop} (h : Chg w w' bad) {g : Nat} {t : TypeId} {cs : Array Value} (hb : Blk w g t cs) (hn : ¬ bad g) : Blk w' g t cs := (h.block g hb.lt hn).trans hb
theorem Own.setRow {w : World} {lo sz n c : Nat} {e : TypeId} {A : Option Addr} {xs : List Value} (h : Own w lo e sz A n c xs) {b i : Nat} (hb : rowOf A c ≠ some b) (u : Value) : Own (w.setCell ⟨b, i, none⟩ u) lo e sz A n c xs :=
  h.keep fun k _ hk => Below.heap_setCell w ⟨b, i, none⟩ u k (by intro (e : k = b); exact hb (e ▸ hk))
theorem below_drew {B : Nat} {w w' : World} (h : Below B w w') (n : Nat) : Below B w (w'.drewN n) := ⟨h.os, h.tape, h.output, h.size, h.block⟩
theorem below_drew1 {B : Nat} {w w' : World} (h : Below B w w') : Below B w w'.drew := ⟨h.os, h.tape, h.output, h.size, h.block⟩
theorem below_self_drew (w : World) : Below w.heap.size w w.drew := below_drew1 (Below.refl _ _)
theorem ret_b {a b : Bool} (h : b = a) : Ending.returned (.bool a) = Ending.returned (.bool b) := by rw [h]
theorem below_al {w w' : World} {o : Obj} (h : Below (w.alloc o).heap.size (w.alloc o) w') : Below w.heap.size w w' :=
  ((Below.refl w.heap.size w).alloc (Nat.le_refl _) o).trans (h.mono (by simp))
theorem below_chain {w0 w1 w2 : World} (h : Below w0.heap.size w0 w1) (k : Below w1.heap.size w1 w2) : Below w0.heap.size w0 w2 := h.trans (k.mono h.size)
theorem below_of_chg {w0 w w' : World} {bad : Nat → Prop} (h : Below w0.heap.size w0 w) (hc : Chg w w' bad) (hb : ∀ b, bad b → w0.heap.size ≤ b) : Below w0.heap.size w0 w' := h.trans (hc.below h.size hb)
theorem below_set {w0 w w' : World} {g : Nat} (h : Below w0.heap.size w0 w) (hg : w.grownBy w' (some g)) (hle : w0.heap.size ≤ g) : Below w0.heap.size w0 w' := h.grown hg h.size (by intro k e; cases e; exact hle)
theorem two_facts {w : World} {g : Nat} {t : TypeId} {a b : Value} (h : Blk w g t #[a, b]) : w.cell? ⟨g, 0, none⟩ = some a ∧ w.cell? ⟨g, 1, none⟩ = some b ∧ w.frozen? ⟨g, 0, none⟩ = false ∧ w.frozen? ⟨g, 1, none⟩ = false :=
  ⟨h.cellv rfl, h.cellv rfl, h.frozen 0, h.frozen 1⟩
theorem Blk.both {w : World} {g : Nat} {t : TypeId} {a b c d : Value} (h : Blk w g t #[a, b]) : Blk ((w.setCell ⟨g, 0, none⟩ c).setCell ⟨g, 1, none⟩ d) g t #[c, d] := (h.set_ 0 c).set_ 1 d
theorem chg_both (w : World) (g : Nat) (c d : Value) : Chg w ((w.setCell ⟨g, 0, none⟩ c).setCell ⟨g, 1, none⟩ d) (fun b => b = g) := ((Chg.refl w (fun b => b = g)).setCell (g := g) (i := 0) c (.inl rfl)).setCell (g := g) (i := 1) d (.inl rfl)
theorem Rd.chg {w w' : World} {lo sz n : Nat} {A : Option Addr} {xs : List Value} {bad : Nat → Prop} (h : Rd w lo sz A n xs) (hc : Chg w w' bad) (hb : ∀ b, lo ≤ b → ¬ bad b) : Rd w' lo sz A n xs :=
  ⟨h.1, fun hn => by
    obtain ⟨b, o, e, hlo, hlt, hx⟩ := h.lt hn
    exact ⟨b, o, e, hlo, fun j hj => (World.cell?_of_block (a := ⟨b, o + j, none⟩) (hc.block b hlt (hb b hlo))).trans (hx j hj)⟩⟩
theorem Own.chg {w w' : World} {lo sz n c : Nat} {e : TypeId} {A : Option Addr} {xs : List Value} {bad : Nat → Prop} (h : Own w lo e sz A n c xs) (hc : Chg w w' bad) (hb : ∀ b, lo ≤ b → ¬ bad b) : Own w' lo e sz A n c xs :=
  h.keep fun b hl hr => hc.block b hl (hb b (h.row_lt b hr).1)

/-- Reads as xs, in a block from lo on that may be written. -/
def Fr (w : World) (lo sz : Nat) (A : Option Addr) (n : Nat) (xs : List Value) : Prop := Rd w lo sz A n xs ∧ (0 < n → ∀ b o, A = some ⟨b, o, none⟩ → ∃ t cs, Blk w b t cs)
theorem Own.fr {w : World} {lo sz n c : Nat} {e : TypeId} {A : Option Addr} {xs : List Value} (h : Own w lo e sz A n c xs) : Fr w lo sz A n xs := by
  refine ⟨h.rd, fun hn b o ho => ?_⟩
  rcases h with ⟨h0, _⟩ | ⟨g, cur, rfl, hlo, hg, _⟩
  · omega
  · cases ho
    exact ⟨_, _, hg⟩
theorem Fr.nil (w : World) (lo sz : Nat) (A : Option Addr) : Fr w lo sz A 0 [] := ⟨Rd.nil _ _ _ _, fun h => absurd h (Nat.lt_irrefl _)⟩
theorem Fr.below {w w' : World} {lo sz n : Nat} {A : Option Addr} {xs : List Value} (h : Fr w lo sz A n xs) (hb : Below w.heap.size w w') : Fr w' lo sz A n xs :=
  ⟨h.1.below hb, fun hn b o e => by obtain ⟨t, cs, hB⟩ := h.2 hn b o e; exact ⟨t, cs, hB.belowS hb⟩⟩
theorem Fr.rd0 {w : World} {lo sz n : Nat} {A : Option Addr} {xs : List Value} (h : Fr w lo sz A n xs) : Rd w 0 sz A n xs := h.1.low (Nat.zero_le _)
theorem Fr.low {w : World} {lo lo' sz n : Nat} {A : Option Addr} {xs : List Value} (h : Fr w lo sz A n xs) (hl : lo' ≤ lo) : Fr w lo' sz A n xs := ⟨h.1.low hl, h.2⟩
theorem Fr.chg {w w' : World} {lo sz n : Nat} {A : Option Addr} {xs : List Value} {bad : Nat → Prop} (hsz : 0 < sz) (h : Fr w lo sz A n xs) (hc : Chg w w' bad) (hb : ∀ b, lo ≤ b → ¬ bad b) : Fr w' lo sz A n xs :=
  ⟨h.1.chg hc hb, fun hn b o e => by
    obtain ⟨t, cs, hB⟩ := h.2 hn b o e
    obtain ⟨b', o', e', hlo, _⟩ := h.1.2 (Nat.mul_pos hn hsz)
    rw [e] at e'
    cases e'
    exact ⟨t, cs, hc.blk hB (hb b hlo)⟩⟩

section
variable {P : Program} {w : World}
/-- A whole row stored, at a step of a region that draws its order. -/
theorem step_str {ops : Array Oper} {o : Oper} {a : Act} {K : Act → World → Prop} {Q : Exit → Act → World → Prop} {E : Prop} (hgd : o.guard = none) (ty : TypeId) (x y : Operand) (ho : o.op = .store ty x y)
    (g : Nat) (vs : Array Value) (hx : a.eval x = .pointer (some ⟨g, 0, none⟩)) (hy : a.eval y = .agg vs) (t : TypeId) (cs : Array Value) (hg : Blk w g t cs) (hs : vs.size = cs.size)
    (hi : (P.info? ty).map (·.size) = some cs.size) (h1 : ∀ v ∈ vs, v.oneCell' = true)
    (h : ∀ w', Blk w' g t vs → w.grownBy w' (some g) → w'.heap.size = w.heap.size → K (a.put o.dst undef) w') :
    if Region.wanted o (yielded ops a.tmps) = true then Oper.wp P o a w K Q else E := by
  obtain ⟨h2, h3, h4⟩ := hg.over vs hs
  have hw : Region.wanted o (yielded ops a.tmps) = true := by simp [Region.wanted, hgd]
  rw [if_pos hw]
  refine wp_store_mid ty x y ho g 0 vs hx hy (fun j hj => ?_) (by rw [hs]; exact hi) (Array.all_eq_true_iff_forall_mem.2 h1) (h _ h2 h3 h4)
  refine ⟨?_, hg.frozen _⟩
  rw [Nat.zero_add, hg.cell j, Array.getElem?_eq_getElem (by omega)]
  rfl
/-- Results: two variables' rows, and a slot. -/
theorem results_ccs {fn : Func} {p q t : Tmp} {ty tz : TypeId} (h : fn.results = #[.cell p ty, .cell q tz, .tmp t]) (tmps : Array Value) (w : World) (g k : Nat) (cs ds : Array Value) (d1 d2 : TypeDesc)
    (hp : tmps.getD p undef = .pointer (some ⟨g, 0, none⟩)) (hq : tmps.getD q undef = .pointer (some ⟨k, 0, none⟩)) (hg : Blk w g ty cs) (hk : Blk w k tz ds)
    (hu : P.underlying ty = some d1) (hv : P.underlying tz = some d2) (h1 : (match d1 with | .struct _ | .array _ _ => true | _ => false) = true) (h2 : (match d2 with | .struct _ | .array _ _ => true | _ => false) = true)
    (hi : (P.info? ty).map (·.size) = some cs.size) (hj : (P.info? tz).map (·.size) = some ds.size) :
    (results fn tmps).run P w = .ok (.tuple #[.agg cs, .agg ds, tmps.getD t undef]) w := by
  have e1 : tmps[p]?.getD undef = .pointer (some ⟨g, 0, none⟩) := by simpa using hp
  have e2 : tmps[q]?.getD undef = .pointer (some ⟨k, 0, none⟩) := by simpa using hq
  simp [results, h, e1, e2, asAddr, run_loadVar_row w g ty ty cs (0, 0) d1 hg hu h1 hi, run_loadVar_row w k tz tz ds (0, 0) d2 hk hv h2 hj]
end
end Go.Proofs.YtheljogmnalbmaaDoor
