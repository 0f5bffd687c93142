/-
  The contract of the reference's Twin: rows in new memory. No condition.
-/
import Derived.Test.YtheljogmnalbmaaDoorRowM
import Derived.Test.YtheljogmnalbmaaDoorRowI
namespace Go.Proofs.YtheljogmnalbmaaDoor
open Go.RowKit
set_option linter.unusedSimpArgs false
set_option linter.unusedVariables false

/-- Headers of rows of the call's own. -/
def HeadsO (w : World) (lo : Nat) (xs : List Value) (pss : List (List UInt8)) : Prop := pss.length = xs.length ∧ ∀ i, i < xs.length → ∃ A n c, xs[i]? = some (.slice A n c) ∧ Go.Proofs.YtheljogmnalbmaaDoor.Own w lo 5 1 A n c ((pss.getD i []).map bv)
theorem HeadsO.heads {w : World} {lo : Nat} {xs : List Value} {pss : List (List UInt8)} (h : HeadsO w lo xs pss) : Heads w xs pss :=
  ⟨h.1, fun i hi => by obtain ⟨A, n, c, h1, h2⟩ := h.2 i hi; exact ⟨A, n, c, h1, h2.rd.low (Nat.zero_le _)⟩⟩
theorem HeadsO.below {w w' : World} {lo : Nat} {xs : List Value} {pss : List (List UInt8)} (h : HeadsO w lo xs pss) (hb : Below w.heap.size w w') : HeadsO w' lo xs pss :=
  ⟨h.1, fun i hi => by obtain ⟨A, n, c, h1, h2⟩ := h.2 i hi; exact ⟨A, n, c, h1, h2.below hb⟩⟩
theorem HeadsO.grown {w w' : World} {lo lo2 n c : Nat} {D : Option Addr} {ys xs : List Value} {pss : List (List UInt8)} (h : HeadsO w lo xs pss) (hO : Go.Proofs.YtheljogmnalbmaaDoor.Own w lo2 24 1 D n c ys) (hg : w.grownBy w' (rowOf D c)) : HeadsO w' lo xs pss :=
  ⟨h.1, fun i hi => by
    obtain ⟨A, m, k, h1, h2⟩ := h.2 i hi
    refine ⟨A, m, k, h1, h2.grown hg fun g e e2 => ?_⟩
    obtain ⟨cs, hcs⟩ := own_cells hO e
    obtain ⟨ds, hds⟩ := own_cells h2 e2
    exact absurd (blk_type hcs hds) (by decide)⟩
theorem HeadsO.push {w : World} {lo : Nat} {xs : List Value} {pss : List (List UInt8)} (h : HeadsO w lo xs pss) {A : Option Addr} {n c : Nat} {p : List UInt8} (hO : Go.Proofs.YtheljogmnalbmaaDoor.Own w lo 5 1 A n c (p.map bv)) : HeadsO w lo (xs ++ [.slice A n c]) (pss ++ [p]) := by
  refine ⟨by simp [h.1], fun i hi => ?_⟩
  by_cases hx : i < xs.length
  · obtain ⟨B, m, k, h1, h2⟩ := h.2 i hx
    refine ⟨B, m, k, by rw [List.getElem?_append_left hx]; exact h1, ?_⟩
    rw [List.getD_eq_getElem?_getD, List.getElem?_append_left (by rw [h.1]; exact hx), ← List.getD_eq_getElem?_getD]
    exact h2
  · have hix : i = xs.length := by simp at hi; omega
    subst hix
    refine ⟨A, n, c, by simp, ?_⟩
    rw [List.getD_eq_getElem?_getD, ← h.1]
    simpa using hO
theorem byte_infoR : (Tryd.prog.info? 5).map (fun i => (i.zero, i.size, i.bytes)) = some (some (.int .u8 0), 1, 1) := by kernel_rfl

def GivesTw (w : World) (np : Nat) (pss : List (List UInt8)) (e : Ending) (w' : World) : Prop := ∃ D c, e = .returned (.slice D np c) ∧ Parts w' D np pss ∧ np ≤ c ∧ Below w.heap.size w w'

set_option maxRecDepth 100000 in
set_option maxHeartbeats 4000000 in
theorem twin_rows (P : Option Addr) (np pc : Nat) (pss : List (List UInt8)) (w : World) (hP : Parts w P np pss) (hnp : np ≤ 1000) (hl : ∀ p ∈ pss, p.length ≤ 5000) :
    Calls Tryd.prog 14 #[.slice P np pc] w (GivesTw w np pss) := by
  have HP := hid hP
  have hle := hid hP.1
  have hll := hid hl
  obtain ⟨i0, hi0, hz0, hz1, hz2⟩ := info_parts slice_info
  obtain ⟨j0, hj0, hy0, hy1, hy2⟩ := info_parts byte_infoR
  clear hP hl
  go_enter Tryd.func14, Tryd.ntmps14
  go_wp2_with fail
  go_loopw [3, 4] (fun v i wx => ∃ (k : Nat) (D : Option Addr) (c : Nat) (xs : List Value), k ≤ np ∧ v = .slice D k c ∧ i = .int .i64 k ∧ Go.Proofs.YtheljogmnalbmaaDoor.Own wx w.heap.size 24 1 D k c xs ∧ HeadsO wx w.heap.size xs (pss.take k) ∧ Below w.heap.size w wx) (fun _ i _ => np - (intOf i).toNat)
  case atStart => exact ⟨0, none, 0, [], Nat.zero_le _, rfl, rfl, Go.Proofs.YtheljogmnalbmaaDoor.Own.nil _ _ _ _ _, ⟨by simp, fun i hi => by simp at hi⟩, Below.refl _ _⟩
  case round =>
    obtain ⟨k, D, c, xs, hk, rfl, rfl, hO, hX, hb⟩ := hrel
    have O := hid hO
    have X := hid hX
    have B := hid hb
    clear hO hX hb
    have htz : (0 : Int) ≤ (k : Int) := by omega
    have hnp' : (np : Int) ≤ 1000 := by omega
    by_cases hlt : k < np
    · have hltH := hid hlt
      have hti : (k : Int) < (np : Int) := by omega
      obtain ⟨b, o, A, m, mc, p, rfl, hbl, hcell, hp, hpm, hpl, hr⟩ := (HP.out.below B.out).at_ hlt
      have hm5 : m ≤ 5000 := by have := hll.out p hpm; omega
      have hpk : pss.take (k + 1) = pss.take k ++ [p] := by
        rw [List.take_succ_eq_append_getElem (by rw [hle.out]; exact hlt)]
        congr 1
        rw [← hp, List.getD_eq_getElem?_getD, List.getElem?_eq_getElem (by rw [hle.out]; exact hlt)]
        rfl
      have HPK := hid hpk
      have HR := hid hr
      obtain ⟨ad, had⟩ : ∃ ad, o + k = ad := ⟨_, rfl⟩
      rw [had] at hcell
      clear hp hpm hpl hr hpk
      have hk1 : k ≤ 1000 := by omega
      go_wp2_with (first
        | (at_builtin; refine wpList_app _ rfl _ _ _ rfl w.heap.size 5 j0 _ 1 1 Tryd.underlying24 hj0 hy0 hy1 hy2 rfl (by omega) none 0 0 [] rfl (Go.Proofs.YtheljogmnalbmaaDoor.Own.nil _ _ _ _ _) A m mc 0 (p.map bv) rfl HR.out (bv_one _) (by simp only [maxLen]; omega) (by omega) B.out.size ?_; intro D8 c8 w8 hO8 hg8 hat8; have O8 := hid (show Go.Proofs.YtheljogmnalbmaaDoor.Own w8 w.heap.size 5 1 D8 m c8 (p.map bv) by simpa using hO8); have hb8 := hid (below_of_grown hg8 (Nat.le_refl _) (fun k e => by cases e)); clear hO8 hg8 hat8; rw [Nat.zero_add])
        | (at_builtin; refine wpList_app _ rfl _ _ _ rfl w.heap.size 24 i0 _ 1 24 Tryd.underlying27 hi0 hz0 hz1 hz2 rfl (by omega) D k c xs rfl ((O.out.below hb8.out).alloc _) _ 1 1 0 [.slice D8 m c8] rfl ((Rd.lit w8 24 1 [.slice D8 m c8] rfl).low (Nat.zero_le _)) (by simp [Value.oneCell']) (by simp only [maxLen]; omega) (by omega) (by have := B.out.size; have := hb8.out.size; simp; omega) ?_; intro D9 c9 w9 hO9 hg9 hat9; have O9 := hid hO9; have G9 := hid hg9; clear hO9 hg9 hat9))
      have hba := below_alloc1 w8 (.cells #[.slice D8 m c8] 24)
      have hOa := (O.out.below hb8.out).below hba
      have hXa := ((X.out.below hb8.out).below hba)
      have hPa := hXa.push (O8.out.below hba)
      have hP9 := hPa.grown hOa G9.out
      refine ⟨⟨k + 1, D9, c9, _, by have := hltH.out; omega, rfl, by go_num, O9.out, by rw [HPK.out]; exact hP9, ?_⟩, by have := hltH.out; simp [intOf]; omega⟩
      exact hOa.grows G9.out ((B.out.trans (hb8.out.mono B.out.size)).trans (hba.mono (by have := B.out.size; have := hb8.out.size; omega))) (by have := B.out.size; have := hb8.out.size; have := hba.size; omega)
    · obtain rfl : k = np := by omega
      have hti : ¬ (k : Int) < (k : Int) := by omega
      go_wp2_with fail
      go_ret
      refine ⟨D, c, rfl, ?_, O.out.cap.1, B.out⟩
      have := parts_of_heads O.out X.out.heads
      rwa [List.take_of_length_le (by have := hle.out; omega)] at this
end Go.Proofs.YtheljogmnalbmaaDoor
