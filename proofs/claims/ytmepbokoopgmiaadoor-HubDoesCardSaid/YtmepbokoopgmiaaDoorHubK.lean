/-
  Events by number; what polled and pushed taps keep; a row apart from a block. No condition beyond those each theorem names.
-/
import Derived.Test.YtmepbokoopgmiaaDoorTapE
namespace Go.Proofs.YtmepbokoopgmiaaDoor
open Go.RowKit
set_option linter.unusedSimpArgs false
set_option linter.unusedVariables false

/-- The event of a number. -/
def evN (n : Int) : Ev := (n, false, zeroHd)
theorem evN_ok (n : Int) : HdOk (evN n).2.2 := zeroHd_ok
theorem zeroE_run (w : World) : (zeroValue 34).run Tryd.prog w = .ok (.agg (evL zeroEv).toArray) w := by kernel_rfl
theorem evN_built (n : Int) (w : World) : (Instr.build 34 #[(0, .int .i64 n)]).run Tryd.prog w = .ok (.agg (evL (evN n)).toArray) w := run_build w _ _ _ (by kernel_rfl)
theorem ev_one (e : Ev) : ∀ v ∈ (evL e).toArray, v.oneCell' = true := fun v hv => itL_one (false, e) v (by simp [itL]; right; simpa using hv)
section
variable {P : Program}
/-- Results: a variable's row. -/
theorem results_c {fn : Func} {p : Tmp} {ty : TypeId} (h : fn.results = #[.cell p ty]) (tmps : Array Value) (w : World) (g : Nat) (cs : Array Value) (d1 : TypeDesc)
    (hp : tmps.getD p undef = .pointer (some ⟨g, 0, none⟩)) (hg : Blk w g ty cs) (hu : P.underlying ty = some d1) (h1 : (match d1 with | .struct _ | .array _ _ => true | _ => false) = true) (hi : (P.info? ty).map (·.size) = some cs.size) :
    (results fn tmps).run P w = .ok (.agg cs) w := by
  have e1 : tmps[p]?.getD undef = .pointer (some ⟨g, 0, none⟩) := by simpa using hp
  simp [results, h, e1, asAddr, run_loadVar_row w g ty ty cs (0, 0) d1 hg hu h1 hi]
end
set_option maxRecDepth 100000 in
/-! ### What they keep -/
theorem evMay_N (n : Int) (h : 0 ≤ n) (k : n < 1073741824) : evMay (evN n) = true := by
  unfold evMay
  rw [decide_eq_true (show 0 ≤ (evN n).1 from h), decide_eq_true (show (evN n).1 < 1073741824 from k)]
  rfl
theorem itsOk_nil : ItsOk [] := fun x hx => by cases hx
theorem pollT_ok {xs : List It} (ho : ItsOk xs) (l : Bool) : ItsOk (pollT xs l).1 := by
  unfold pollT
  split
  · split
    · exact fun x hx => ho x (by simp [hx])
    · split <;> exact itsOk_nil
  · exact itsOk_nil
theorem pollT_itok {xs : List It} (ho : ItsOk xs) (l : Bool) : ItOk (pollT xs l).2.2.1 := by
  unfold pollT
  split
  · split
    · exact ho _ (by simp)
    · split
      · exact gapIt_ok
      · exact zeroIt_ok
  · exact zeroIt_ok
theorem pushT_ok {xs : List It} (ho : ItsOk xs) (l : Bool) (room : Int) (e : Ev) (he : HdOk e.2.2) : ItsOk (pushT xs l room e).1 := by
  have h2 : ItsOk (xs ++ [gapIt, (false, e)]) := fun x hx => by
    simp at hx
    rcases hx with h | rfl | rfl
    · exact ho x h
    · exact gapIt_ok
    · exact he
  have h1 : ItsOk (xs ++ [(false, e)]) := fun x hx => by
    simp at hx
    rcases hx with h | rfl
    · exact ho x h
    · exact he
  unfold pushT
  repeat' split
  all_goals first | exact ho | exact h1 | exact h2 | exact itsOk_nil
theorem pollT_len (xs : List It) (l : Bool) : (pollT xs l).1.length ≤ 64 := by
  unfold pollT
  split
  · rename_i h
    have := itsMay_len h
    split
    · simp at this ⊢; omega
    · split <;> simp
  · simp
theorem pushT_len (xs : List It) (l : Bool) (room : Int) (e : Ev) : (pushT xs l room e).1.length ≤ 64 := by
  unfold pushT
  split
  · rename_i h
    simp only [Bool.and_eq_true] at h
    have := itsMay_len h.1
    split
    · repeat' split
      all_goals simp
      all_goals omega
    · simp
  · simp
/-- Reads as xs, apart from block g. -/
def RdN (w : World) (g sz : Nat) (A : Option Addr) (n : Nat) (xs : List Value) : Prop := Rd w 0 sz A n xs ∧ (0 < n * sz → ∀ b o, A = some ⟨b, o, none⟩ → b ≠ g)
theorem RdN.of_lt {w : World} {g sz n : Nat} {A : Option Addr} {xs : List Value} (h : Rd w 0 sz A n xs) (hg : w.heap.size ≤ g) : RdN w g sz A n xs :=
  ⟨h, fun hn b o e => by
    obtain ⟨b', o', e', _, hlt, _⟩ := h.lt hn
    rw [e] at e'
    cases e'
    omega⟩
theorem RdN.of_fr {w : World} {g lo sz n : Nat} {A : Option Addr} {xs : List Value} (h : Rd w lo sz A n xs) (hg : g < lo) : RdN w g sz A n xs :=
  ⟨h.low (Nat.zero_le _), fun hn b o e => by
    obtain ⟨b', o', e', hlo, _⟩ := h.2 hn
    rw [e] at e'
    cases e'
    omega⟩
theorem RdN.below {w w' : World} {g sz n : Nat} {A : Option Addr} {xs : List Value} (h : RdN w g sz A n xs) (hb : Below w.heap.size w w') : RdN w' g sz A n xs := ⟨h.1.below hb, h.2⟩
theorem RdN.drew {w : World} {g sz n : Nat} {A : Option Addr} {xs : List Value} (h : RdN w g sz A n xs) (k : Nat) : RdN (w.drewN k) g sz A n xs := h
theorem RdN.grown {w w' : World} {g sz n : Nat} {A : Option Addr} {xs : List Value} (h : RdN w g sz A n xs) (hg : w.grownBy w' (some g)) : RdN w' g sz A n xs := by
  rcases Nat.eq_zero_or_pos (n * sz) with h0 | hn
  · exact ⟨⟨h.1.1, fun hp => by omega⟩, h.2⟩
  · obtain ⟨b, o, e, hlo, hlt, hx⟩ := h.1.lt hn
    exact ⟨h.1.keep (fun b' hb' ⟨o', e'⟩ => hg.block b' hb' (fun e2 => h.2 hn b' o' e' (Option.some.inj e2))), h.2⟩
theorem Rd.intAt {w : World} {lo n : Nat} {A : Option Addr} {vs : List Int} (h : Rd w lo 1 A n (vs.map (Value.int .i64))) {k : Nat} {v : Int} (hk : vs[k]? = some v) : ∃ b o, A = some ⟨b, o, none⟩ ∧ lo ≤ b ∧ w.cell? ⟨b, o + k, none⟩ = some (.int .i64 v) := by
  have hkn : k < vs.length := (List.getElem?_eq_some_iff.1 hk).1
  have h1 := h.1
  rw [List.length_map] at h1
  obtain ⟨b, o, e, hlo, hx⟩ := h.2 (by omega)
  exact ⟨b, o, e, hlo, by rw [hx k (by omega), List.getElem?_map, hk]; rfl⟩
end Go.Proofs.YtmepbokoopgmiaaDoor
