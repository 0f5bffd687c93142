/-
  The contract of the reference's Great; rows joined: what their list reads. No condition.
-/
import Derived.Test.YtheljogmnalbmaaDoorRowJ
namespace Go.Proofs.YtheljogmnalbmaaDoor
open Go.RowKit
set_option linter.unusedSimpArgs false
set_option linter.unusedVariables false

/-- Is a row neither short nor a little too long? -/
def oddB (p : List UInt8) : Bool := (decide (200 < p.length) && decide (p.length ≤ 4096)) || decide (5000 < p.length)
def greatB (m : Nat) (pss : List (List UInt8)) : Bool := decide (m < pss.length) || pss.any oddB
theorem greatB_parts {m : Nat} {pss : List (List UInt8)} (h : greatB m pss = false) : pss.length ≤ m ∧ ∀ p ∈ pss, p.length ≤ 5000 ∧ (p.length ≤ 200 ∨ 4096 < p.length) := by
  unfold greatB at h
  simp only [Bool.or_eq_false_iff, decide_eq_false_iff_not, List.any_eq_false] at h
  refine ⟨by omega, fun p hp => ?_⟩
  have := h.2 p hp
  simp [oddB] at this
  omega

set_option maxRecDepth 100000 in
set_option maxHeartbeats 4000000 in
theorem great_any (P : Option Addr) (np pc m : Nat) (hm : m ≤ 1000) (pss : List (List UInt8)) (w : World) (hP : Parts w P np pss) (b : Bool) (hb : greatB m pss = b) :
    Calls Tryd.prog 11 #[.slice P np pc, .int .i64 m] w fun e w' => e = .returned (.bool b) ∧ w' = w := by
  have HP := hid hP
  have hle := hid hP.1
  subst hb
  clear hP
  by_cases h : (np : Int) > m
  · have : greatB m pss = true := by unfold greatB; rw [decide_eq_true (by have := hle.out; omega)]; rfl
    rw [this]
    go_enter Tryd.func11, Tryd.ntmps11
    go_wp2
    go_ret
    exact ⟨rfl, rfl⟩
  have hlb : greatB m pss = pss.any oddB := by unfold greatB; rw [decide_eq_false (by have := hle.out; omega)]; rfl
  rw [hlb]
  clear hlb
  go_enter Tryd.func11, Tryd.ntmps11
  go_wp2_with fail
  go_loopw [5] (fun i wx => ∃ k : Nat, k ≤ np ∧ i = .int .i64 k ∧ wx = w ∧ (pss.take k).any oddB = false) (fun i _ => np - (intOf i).toNat)
  case atStart => exact ⟨0, Nat.zero_le _, rfl, rfl, rfl⟩
  case round =>
    obtain ⟨k, hk, rfl, rfl, hno⟩ := hrel
    have HN := hid hno
    have htz : (0 : Int) ≤ (k : Int) := by omega
    have hnp' : (np : Int) ≤ 1000 := by omega
    clear hno
    by_cases hlt : k < np
    · have hltH := hid hlt
      have hti : (k : Int) < (np : Int) := by omega
      obtain ⟨b, o, A, m, mc, p, rfl, hbl, hcell, hp, hpm, hpl, hr⟩ := HP.out.at_ hlt
      have hstep : (pss.take (k + 1)).any oddB = ((decide (200 < m) && decide (m ≤ 4096)) || decide (5000 < m)) := by
        rw [List.take_succ_eq_append_getElem (by rw [hle.out]; exact hlt), List.any_append, HN.out, Bool.false_or]
        have : pss[k]'(by rw [hle.out]; exact hlt) = p := by
          rw [← hp, List.getD_eq_getElem?_getD, List.getElem?_eq_getElem (by rw [hle.out]; exact hlt)]
          rfl
        simp [this, oddB, hpl]
      have HS := hid hstep
      have hin : ((decide (200 < m) && decide (m ≤ 4096)) || decide (5000 < m)) = true → pss.any oddB = true := fun e => by
        rw [← List.take_append_drop (k + 1) pss, List.any_append, hstep, e]
        rfl
      have HI := hid hin
      obtain ⟨ad, had⟩ : ∃ ad, o + k = ad := ⟨_, rfl⟩
      rw [had] at hcell
      clear hp hpm hpl hr hstep hin
      by_cases c1 : (m : Int) > 200
      · by_cases c2 : (m : Int) ≤ 4096
        · have HM := hid (HI.out (by simp; omega))
          go_wp2
          go_ret
          exact ⟨by rw [HM.out]; rfl, rfl⟩
        · by_cases c3 : (m : Int) > 5000
          · have HM := hid (HI.out (by simp; omega))
            go_wp2
            go_ret
            exact ⟨by rw [HM.out]; rfl, rfl⟩
          · have HS2 := hid (show (pss.take (k + 1)).any oddB = false by rw [HS.out]; simp; omega)
            go_wp2
            exact ⟨⟨k + 1, by have := hltH.out; omega, by go_num, by first | rfl | trivial, HS2.out⟩, by have := hltH.out; simp [intOf]; omega⟩
      · have c3 : ¬ (m : Int) > 5000 := by omega
        have HS2 := hid (show (pss.take (k + 1)).any oddB = false by rw [HS.out]; simp; omega)
        go_wp2
        exact ⟨⟨k + 1, by have := hltH.out; omega, by go_num, by first | rfl | trivial, HS2.out⟩, by have := hltH.out; simp [intOf]; omega⟩
    · obtain rfl : k = np := by omega
      have hti : ¬ (k : Int) < (k : Int) := by omega
      have hall : pss.any oddB = false := by
        have := HN.out
        rwa [List.take_of_length_le (by have := hle.out; omega)] at this
      have HA := hid hall
      clear hall
      go_wp2
      go_ret
      exact ⟨by rw [HA.out]; rfl, rfl⟩

/-- The rows' headers. -/
def Heads (w : World) (xs : List Value) (pss : List (List UInt8)) : Prop := pss.length = xs.length ∧ ∀ i, i < xs.length → ∃ A n c, xs[i]? = some (.slice A n c) ∧ Rd w 0 1 A n ((pss.getD i []).map bv)
theorem Heads.below {w w' : World} {xs : List Value} {pss : List (List UInt8)} (h : Heads w xs pss) (hb : Below w.heap.size w w') : Heads w' xs pss :=
  ⟨h.1, fun i hi => by obtain ⟨A, n, c, h1, h2⟩ := h.2 i hi; exact ⟨A, n, c, h1, h2.below hb⟩⟩
theorem Heads.one {w : World} {xs : List Value} {pss : List (List UInt8)} (h : Heads w xs pss) : ∀ u ∈ xs, u.oneCell' = true := fun u hu => by
  obtain ⟨i, hi, rfl⟩ := List.getElem_of_mem hu
  obtain ⟨A, n, c, h1, _⟩ := h.2 i hi
  rw [List.getElem?_eq_getElem hi] at h1
  rw [Option.some.inj h1]
  rfl
theorem Heads.app {w : World} {xs ys : List Value} {pss qss : List (List UInt8)} (h : Heads w xs pss) (k : Heads w ys qss) : Heads w (xs ++ ys) (pss ++ qss) := by
  refine ⟨by rw [List.length_append, List.length_append, h.1, k.1], fun i hi => ?_⟩
  by_cases hx : i < xs.length
  · obtain ⟨A, n, c, h1, h2⟩ := h.2 i hx
    refine ⟨A, n, c, by rw [List.getElem?_append_left hx]; exact h1, ?_⟩
    rw [List.getD_eq_getElem?_getD, List.getElem?_append_left (by rw [h.1]; exact hx), ← List.getD_eq_getElem?_getD]
    exact h2
  · obtain ⟨A, n, c, h1, h2⟩ := k.2 (i - xs.length) (by rw [List.length_append] at hi; omega)
    refine ⟨A, n, c, by rw [List.getElem?_append_right (by omega)]; exact h1, ?_⟩
    rw [List.getD_eq_getElem?_getD, List.getElem?_append_right (by rw [h.1]; omega), h.1, ← List.getD_eq_getElem?_getD]
    exact h2
theorem parts_heads {w : World} {P : Option Addr} {np : Nat} {pss : List (List UInt8)} (h : Parts w P np pss) : ∃ xs, Rd w 0 1 P np xs ∧ Heads w xs pss := by
  by_cases h0 : np = 0
  · subst h0
    exact ⟨[], ⟨rfl, fun k => by omega⟩, by rw [h.1]; rfl, fun i hi => by simp at hi⟩
  · obtain ⟨b, o, _, _, _, rfl, _⟩ := h.2 0 (by omega)
    have hc : ∀ i, i < np → ∃ A n c, w.cell? ⟨b, o + i, none⟩ = some (.slice A n c) ∧ Rd w 0 1 A n ((pss.getD i []).map bv) := fun i hi => by
      obtain ⟨b', o', A, n, c, e, _, h1, h2⟩ := h.2 i hi
      cases e
      exact ⟨A, n, c, h1, h2⟩
    refine ⟨(List.range np).map fun i => (w.cell? ⟨b, o + i, none⟩).getD undef, ⟨by simp, fun _ => ⟨b, o, rfl, Nat.zero_le _, fun j hj => ?_⟩⟩, by rw [h.1]; simp, fun i hi => ?_⟩
    · obtain ⟨A, n, c, h1, _⟩ := hc j (by omega)
      rw [List.getElem?_map, List.getElem?_range (by omega)]
      simp [h1]
    · have hi' : i < np := by simpa using hi
      obtain ⟨A, n, c, h1, h2⟩ := hc i hi'
      refine ⟨A, n, c, ?_, h2⟩
      rw [List.getElem?_map, List.getElem?_range hi']
      simp [h1]
theorem parts_of_heads {w : World} {lo n c : Nat} {e : TypeId} {D : Option Addr} {xs : List Value} {pss : List (List UInt8)} (hO : Go.Proofs.YtheljogmnalbmaaDoor.Own w lo e 1 D n c xs) (hX : Heads w xs pss) : Parts w D n pss := by
  have hl := hO.len
  refine ⟨by rw [hX.1]; omega, fun i hi => ?_⟩
  obtain ⟨A, m, k, h1, h2⟩ := hX.2 i (by omega)
  obtain ⟨b, o, e', _, hlt, hc⟩ := hO.rd.lt (by omega)
  exact ⟨b, o, A, m, k, e', hlt, by rw [hc i (by omega), h1], h2⟩

/-- The join: as many rows as a power of 2 tells, and no more than these. -/
theorem front_join {k m : Nat} (h1 : 1 ≤ m) (h2 : m ≤ 2 ^ k) : frontN (2 ^ k + m) = 2 ^ k := by
  have hp := Nat.pow_pos (n := k) (show 0 < 2 by omega)
  exact (front_uniq (n := 2 ^ k + m) (j := k) (by omega) (by omega) (by omega)).symm
theorem rootT_join {k : Nat} {l o : List (List UInt8)} (hl : l.length = 2 ^ k) (h1 : 1 ≤ o.length) (h2 : o.length ≤ 2 ^ k) : rootT (l ++ o) = digOf 8 [rootT l, rootT o] := by
  have hp := Nat.pow_pos (n := k) (show 0 < 2 by omega)
  rw [rootT_two (by rw [List.length_append]; omega), List.length_append, hl, front_join h1 h2, ← hl, List.take_left, List.drop_left]
theorem listB_join {l o : List (List UInt8)} (hl : l.length ≤ 16) (ho : o.length ≤ 16) : listB (l ++ o) = (listB l && listB o) := by
  unfold listB
  rw [List.any_append, decide_eq_true (show (l ++ o).length ≤ 256 by rw [List.length_append]; omega), decide_eq_true (show l.length ≤ 256 by omega), decide_eq_true (show o.length ≤ 256 by omega)]
  cases l.any longB <;> cases o.any longB <;> rfl
/-- The four ways in which a join may go. -/
theorem join_cases {k : Nat} {l o : List (List UInt8)} (hk : 2 ^ k ≤ 16) (hl : l.length = 2 ^ k) (h1 : 1 ≤ o.length) (h2 : o.length ≤ 2 ^ k) :
    ((rootE l).2 = 0 ∧ (rootE o).2 = 0 ∧ (rootE (l ++ o)).2 = 0 ∧ (rootE (l ++ o)).1 = digOf 8 [(rootE l).1, (rootE o).1]) ∨ ((rootE l).2 = 0 ∧ (rootE o).2 = 8 ∧ (rootE (l ++ o)).2 = 8) ∨ ((rootE l).2 = 8 ∧ (rootE (l ++ o)).2 = 8) := by
  have hj := listB_join (l := l) (o := o) (by omega) (by omega)
  unfold rootE
  rw [hj]
  cases listB l <;> cases listB o
  · exact .inr (.inr ⟨rfl, rfl⟩)
  · exact .inr (.inr ⟨rfl, rfl⟩)
  · exact .inr (.inl ⟨rfl, rfl, rfl⟩)
  · exact .inl ⟨rfl, rfl, rfl, rootT_join hl h1 h2⟩
end Go.Proofs.YtheljogmnalbmaaDoor
