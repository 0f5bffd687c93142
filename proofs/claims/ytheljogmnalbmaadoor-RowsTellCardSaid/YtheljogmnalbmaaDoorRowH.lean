/-
  Whether rows are a list: in plain words; contracts of rows.list and the reference's May. No condition beyond those each theorem names.
-/
import Derived.Test.YtheljogmnalbmaaDoorRowC
import Derived.Test.YtheljogmnalbmaaDoorGuards
namespace Go.Proofs.YtheljogmnalbmaaDoor
open Go.RowKit
set_option linter.unusedSimpArgs false
set_option linter.unusedVariables false

/-- Is a row too long? -/
def longB (p : List UInt8) : Bool := decide (4096 < p.length)
/-- Are rows a list? -/
def listB (pss : List (List UInt8)) : Bool := decide (pss.length ≤ 256) && !pss.any longB

theorem long_any (A : Option Addr) (n c : Nat) (w : World) : Calls Tryd.prog 41 #[.slice A n c] w fun e w' => e = .returned (.bool (decide (4096 < n))) ∧ w' = w := by
  by_cases h : (n : Int) > 4096
  · rw [decide_eq_true (by omega)]
    go_enter Tryd.func41, Tryd.ntmps41
    go_wp2
    go_ret
    exact ⟨rfl, rfl⟩
  · rw [decide_eq_false (by omega)]
    go_enter Tryd.func41, Tryd.ntmps41
    go_wp2
    go_ret
    exact ⟨rfl, rfl⟩
/-- Where the first is that is too long; below 0: there is none. -/
def AtLong (pss : List (List UInt8)) (r : Int) : Prop := decide (r ≥ 0) = pss.any longB
def GivesAt (w : World) (pss : List (List UInt8)) (e : Ending) (w' : World) : Prop := ∃ r, e = .returned (.int .i64 r) ∧ AtLong pss r ∧ w' = w

set_option maxHeartbeats 2000000 in
theorem index_any (P : Option Addr) (np pc : Nat) (pss : List (List UInt8)) (w : World) (hP : Parts w P np pss) (hnp : np ≤ 1000) :
    Calls Tryd.prog 48 #[.slice P np pc, .func (.func 41) #[] #[]] w (GivesAt w pss) := by
  have HP := hid hP
  have HL := hid (fun A n c W => long_any A n c W)
  have hle := hid hP.1
  clear hP
  go_enter Tryd.func48, Tryd.ntmps48
  go_wp2_with fail
  go_loopw [8] (fun i wx => ∃ k : Nat, k ≤ np ∧ i = .int .i64 k ∧ wx = w ∧ (pss.take k).any longB = false) (fun i _ => np - (intOf i).toNat)
  case atStart => exact ⟨0, Nat.zero_le _, rfl, rfl, rfl⟩
  case round =>
    obtain ⟨k, hk, rfl, rfl, hno⟩ := hrel
    have HN := hid hno
    have htz : (0 : Int) ≤ (k : Int) := by omega
    have hnp' : (np : Int) ≤ 1000 := by omega
    clear hno
    by_cases hlt : k < np
    · have hltH := hid hlt
      have hti : (k : Int) < (np : Int) := by omega
      obtain ⟨b, o, A, m, mc, p, rfl, hbl, hcell, hp, hpm, hpl, hr⟩ := HP.out.at_ hlt
      have hstep : (pss.take (k + 1)).any longB = decide (4096 < m) := by
        rw [List.take_succ_eq_append_getElem (by rw [hle.out]; exact hlt), List.any_append, HN.out, Bool.false_or]
        have : pss[k]'(by rw [hle.out]; exact hlt) = p := by
          rw [← hp, List.getD_eq_getElem?_getD, List.getElem?_eq_getElem (by rw [hle.out]; exact hlt)]
          rfl
        simp [this, longB, hpl]
      have HS := hid hstep
      have hin : decide (4096 < m) = true → pss.any longB = true := fun e => by
        rw [← List.take_append_drop (k + 1) pss, List.any_append, hstep, e]
        rfl
      have HI := hid hin
      obtain ⟨ad, had⟩ : ∃ ad, o + k = ad := ⟨_, rfl⟩
      rw [had] at hcell
      clear hp hpm hpl hr hstep hin
      have HLm := hid (fun W => HL.out A m mc W)
      generalize decide (4096 < m) = q at *
      clear HL
      cases q
      · go_wp2_with ((with_reducible refine (HLm.out _).mono ?_); rintro e v1 ⟨rfl, hv⟩; replace hv := hv.symm; subst hv)
        exact ⟨⟨k + 1, by have := hltH.out; omega, by go_num, by first | rfl | trivial, HS.out⟩, by have := hltH.out; simp [intOf]; omega⟩
      · go_wp2_with ((with_reducible refine (HLm.out _).mono ?_); rintro e v1 ⟨rfl, hv⟩; replace hv := hv.symm; subst hv)
        go_ret
        exact ⟨k, rfl, by unfold AtLong; rw [HI.out (by first | rfl | trivial), decide_eq_true_iff]; omega, rfl⟩
    · obtain rfl : k = np := by omega
      have hti : ¬ (k : Int) < (k : Int) := by omega
      have hall : pss.any longB = false := by
        have := HN.out
        rwa [List.take_of_length_le (by have := hle.out; omega)] at this
      have HA := hid hall
      clear hall
      go_wp2
      go_ret
      exact ⟨-1, rfl, by unfold AtLong; rw [HA.out]; rfl, rfl⟩

theorem contains_any (P : Option Addr) (np pc : Nat) (pss : List (List UInt8)) (w : World) (hP : Parts w P np pss) (hnp : np ≤ 1000) :
    Calls Tryd.prog 40 #[.slice P np pc, .func (.func 41) #[] #[]] w fun e w' => e = .returned (.bool (pss.any longB)) ∧ w' = w := by
  have hI := hid (fun W (h : Parts W P np pss) => index_any P np pc pss W h hnp)
  unfold GivesAt at hI
  have HP := hid hP
  clear hP
  go_enter Tryd.func40, Tryd.ntmps40
  go_wp2_with ((with_reducible refine (hI.out _ HP.out).mono ?_); rintro e v1 ⟨r, rfl, hr, hv⟩; have HR := hid hr; clear hr; subst hv)
  go_ret
  refine ⟨?_, rfl⟩
  have := HR.out
  unfold AtLong at this
  rw [← this]
  rfl

theorem list_any (P : Option Addr) (np pc : Nat) (pss : List (List UInt8)) (w : World) (hP : Parts w P np pss) (b : Bool) (hb : listB pss = b) :
    Calls Tryd.prog 26 #[.slice P np pc] w fun e w' => e = .returned (.bool b) ∧ w' = w := by
  have hle := hP.1
  have HP := hid hP
  subst hb
  by_cases h : (np : Int) ≤ 256
  · have hC := hid (fun W (h' : Parts W P np pss) => contains_any P np pc pss W h' (by omega))
    have : listB pss = !pss.any longB := by unfold listB; rw [decide_eq_true (by omega)]; rfl
    rw [this]
    clear this hP hle
    generalize pss.any longB = q at *
    cases q
    all_goals
      go_enter Tryd.func26, Tryd.ntmps26
      go_wp2_with ((with_reducible refine (hC.out _ HP.out).mono ?_); rintro e v1 ⟨rfl, hv⟩; subst hv)
      go_ret
      exact ⟨rfl, rfl⟩
  · have : listB pss = false := by unfold listB; rw [decide_eq_false (by omega)]; rfl
    rw [this]
    clear this hP hle
    go_enter Tryd.func26, Tryd.ntmps26
    go_wp2
    go_ret
    exact ⟨rfl, rfl⟩

set_option maxHeartbeats 2000000 in
theorem may13_any (P : Option Addr) (np pc : Nat) (pss : List (List UInt8)) (w : World) (hP : Parts w P np pss) (b : Bool) (hb : listB pss = b) :
    Calls Tryd.prog 28 #[.slice P np pc] w fun e w' => e = .returned (.bool b) ∧ w' = w := by
  have HP := hid hP
  have hle := hid hP.1
  subst hb
  clear hP
  by_cases h : (np : Int) > 256
  · have : listB pss = false := by unfold listB; rw [decide_eq_false (by have := hle.out; omega)]; rfl
    rw [this]
    go_enter Tryd.func28, Tryd.ntmps28
    go_wp2
    go_ret
    exact ⟨rfl, rfl⟩
  have hlb : listB pss = !pss.any longB := by unfold listB; rw [decide_eq_true (by have := hle.out; omega)]; rfl
  rw [hlb]
  clear hlb
  go_enter Tryd.func28, Tryd.ntmps28
  go_wp2_with fail
  go_loopw [3] (fun i wx => ∃ k : Nat, k ≤ np ∧ i = .int .i64 k ∧ wx = w ∧ (pss.take k).any longB = false) (fun i _ => np - (intOf i).toNat)
  case atStart => exact ⟨0, Nat.zero_le _, rfl, rfl, rfl⟩
  case round =>
    obtain ⟨k, hk, rfl, rfl, hno⟩ := hrel
    have HN := hid hno
    have htz : (0 : Int) ≤ (k : Int) := by omega
    have hnp' : (np : Int) ≤ 1000 := by omega
    clear hno
    by_cases hlt : k < np
    · have hltH := hid hlt
      have hti : (k : Int) < (np : Int) := by omega
      obtain ⟨b, o, A, m, mc, p, rfl, hbl, hcell, hp, hpm, hpl, hr⟩ := HP.out.at_ hlt
      have hstep : (pss.take (k + 1)).any longB = decide (4096 < m) := by
        rw [List.take_succ_eq_append_getElem (by rw [hle.out]; exact hlt), List.any_append, HN.out, Bool.false_or]
        have : pss[k]'(by rw [hle.out]; exact hlt) = p := by
          rw [← hp, List.getD_eq_getElem?_getD, List.getElem?_eq_getElem (by rw [hle.out]; exact hlt)]
          rfl
        simp [this, longB, hpl]
      have HS := hid hstep
      have hin : decide (4096 < m) = true → pss.any longB = true := fun e => by
        rw [← List.take_append_drop (k + 1) pss, List.any_append, hstep, e]
        rfl
      have HI := hid hin
      obtain ⟨ad, had⟩ : ∃ ad, o + k = ad := ⟨_, rfl⟩
      rw [had] at hcell
      clear hp hpm hpl hr hstep hin
      by_cases hm : (m : Int) > 4096
      · have hmt : pss.any longB = true := HI.out (decide_eq_true (by omega))
        have HM := hid hmt
        clear hmt
        go_wp2
        go_ret
        exact ⟨by rw [HM.out]; rfl, rfl⟩
      · have HS2 := hid (show (pss.take (k + 1)).any longB = false by rw [HS.out]; exact decide_eq_false (by omega))
        go_wp2
        exact ⟨⟨k + 1, by have := hltH.out; omega, by go_num, by first | rfl | trivial, HS2.out⟩, by have := hltH.out; simp [intOf]; omega⟩
    · obtain rfl : k = np := by omega
      have hti : ¬ (k : Int) < (k : Int) := by omega
      have hall : pss.any longB = false := by
        have := HN.out
        rwa [List.take_of_length_le (by have := hle.out; omega)] at this
      have HA := hid hall
      clear hall
      go_wp2
      go_ret
      exact ⟨by rw [HA.out]; rfl, rfl⟩
end Go.Proofs.YtheljogmnalbmaaDoor
