/-
  Subscribers as rows of cells; a hub that may be read ('HRd'), a hub of the call's own ('HOwn'). Contracts of hub.number and of the clone of subscribers. No condition beyond those each theorem names.
-/
import Derived.Test.YtmepbokoopgmiaaDoorHubP
import Derived.Test.YtmepbokoopgmiaaDoorTapC
import Derived.Deep.Cut
namespace Go.Proofs.YtmepbokoopgmiaaDoor
open Go.RowKit
set_option linter.unusedSimpArgs false
set_option linter.unusedVariables false

/-- A subscriber, and where its items lie: address, length, capacity. -/
abbrev RS := Sub × Option Addr × Nat × Nat
def rsL (r : RS) : List Value := [.int .i64 r.1.1, .int .i64 r.1.2.1, .slice r.2.1 r.2.2.1 r.2.2.2, .bool r.1.2.2.2]
def rssL (rs : List RS) : List Value := rs.flatMap rsL
theorem rsL_len (r : RS) : (rsL r).length = 4 := rfl
theorem rsL_one (r : RS) : ∀ v ∈ rsL r, v.oneCell' = true := by
  intro v hv
  simp only [rsL, List.mem_cons, List.not_mem_nil, or_false] at hv
  rcases hv with rfl | rfl | rfl | rfl <;> rfl
theorem rssL_one (rs : List RS) : ∀ v ∈ rssL rs, v.oneCell' = true := by
  intro v hv
  simp only [rssL, List.mem_flatMap] at hv
  obtain ⟨r, _, h⟩ := hv
  exact rsL_one r v h
theorem rssL_len (rs : List RS) : (rssL rs).length = rs.length * 4 := by
  induction rs with
  | nil => rfl
  | cons r rs ih =>
    simp only [rssL, List.flatMap_cons, List.length_append, List.length_cons, rsL_len] at ih ⊢
    omega
theorem rssL_app (a b : List RS) : rssL (a ++ b) = rssL a ++ rssL b := by simp [rssL]
theorem rssL_at (rs : List RS) (k : Nat) (r : RS) (hk : rs[k]? = some r) (j : Nat) (hj : j < 4) : (rssL rs)[k * 4 + j]? = (rsL r)[j]? := by
  induction rs generalizing k with
  | nil => simp at hk
  | cons y rs ih =>
    simp only [rssL, List.flatMap_cons]
    cases k with
    | zero =>
      simp at hk
      subst hk
      rw [Nat.zero_mul, Nat.zero_add, List.getElem?_append_left (by rw [rsL_len]; omega)]
    | succ k =>
      rw [List.getElem?_append_right (by rw [rsL_len]; omega), rsL_len, show (k + 1) * 4 + j - 4 = k * 4 + j by omega]
      exact ih k (by simpa using hk)
theorem rssL_take (rs : List RS) (k : Nat) : rssL (rs.take k) = (rssL rs).take (k * 4) := by
  induction rs generalizing k with
  | nil => simp [rssL]
  | cons r rs ih =>
    cases k with
    | zero => simp [rssL]
    | succ k =>
      have := ih k
      simp only [rssL, List.take_succ_cons, List.flatMap_cons] at this ⊢
      have h4 : (rsL r).take ((k + 1) * 4) = rsL r := List.take_of_length_le (by rw [rsL_len]; omega)
      rw [this, List.take_append, rsL_len, h4, show (k + 1) * 4 - 4 = k * 4 by omega]
theorem rssL_drop (rs : List RS) (k : Nat) : rssL (rs.drop k) = (rssL rs).drop (k * 4) := by
  induction rs generalizing k with
  | nil => simp [rssL]
  | cons r rs ih =>
    cases k with
    | zero => simp
    | succ k =>
      have := ih k
      simp only [rssL, List.drop_succ_cons, List.flatMap_cons] at this ⊢
      have h4 : (rsL r).drop ((k + 1) * 4) = [] := List.drop_of_length_le (by rw [rsL_len]; omega)
      rw [this, List.drop_append, rsL_len, h4, List.nil_append, show (k + 1) * 4 - 4 = k * 4 by omega]
/-- Its items lie in memory. -/
def SubAt (w : World) (r : RS) : Prop := ItsOk r.1.2.2.1 ∧ Rd w 0 101 r.2.1 r.2.2.1 (itsL r.1.2.2.1)
/-- A slice of subscribers that may be read. -/
def HRd (w : World) (A : Option Addr) (n : Nat) (rs : List RS) : Prop := Rd w 0 4 A n (rssL rs) ∧ ∀ r ∈ rs, SubAt w r
/-- The subscribers alone. -/
def subs (rs : List RS) : List Sub := rs.map (·.1)
/-- Its items lie in memory of the call's own, from lo on, apart from block g. -/
def SubOwn (w : World) (lo : Nat) (g : Option Nat) (r : RS) : Prop := ItsOk r.1.2.2.1 ∧ Fr w lo 101 r.2.1 r.2.2.1 (itsL r.1.2.2.1) ∧ (0 < r.2.2.1 → ∀ b o, r.2.1 = some ⟨b, o, none⟩ → some b ≠ g)
/-- A slice of subscribers of the call's own. -/
def HOwn (w : World) (lo : Nat) (A : Option Addr) (n c : Nat) (rs : List RS) : Prop := Own w lo 53 4 A n c (rssL rs) ∧ ∀ r ∈ rs, SubOwn w lo (rowOf A c) r
section
variable {w w' : World} {lo lo' n c : Nat} {A : Option Addr} {rs : List RS} {r : RS}
theorem SubAt.below (h : SubAt w r) (hb : Below w.heap.size w w') : SubAt w' r := ⟨h.1, h.2.below hb⟩
theorem SubAt.len (h : SubAt w r) : r.1.2.2.1.length = r.2.2.1 := rd_len h.1 h.2
theorem HRd.below (h : HRd w A n rs) (hb : Below w.heap.size w w') : HRd w' A n rs := ⟨h.1.below hb, fun r hr => (h.2 r hr).below hb⟩
theorem HRd.len (h : HRd w A n rs) : rs.length = n := by have := h.1.1; rw [rssL_len] at this; omega
theorem HRd.at_ (h : HRd w A n rs) {k : Nat} (hk : rs[k]? = some r) : ∃ b o, A = some ⟨b, o, none⟩ ∧ b < w.heap.size ∧ w.rangeAt b (o + k * 4) (rsL r) := by
  have hl := h.len
  have hkn : k < rs.length := (List.getElem?_eq_some_iff.1 hk).1
  obtain ⟨b, o, e, _, hlt, hc⟩ := h.1.lt (by omega)
  refine ⟨b, o, e, hlt, fun j v hv => ?_⟩
  have hj : j < 4 := (List.getElem?_eq_some_iff.1 hv).1
  rw [Nat.add_assoc, hc _ (by omega), rssL_at rs k r hk j hj]
  exact hv
theorem SubOwn.at_ {g : Option Nat} (h : SubOwn w lo g r) : SubAt w r := ⟨h.1, h.2.1.rd0⟩
theorem SubOwn.below {g : Option Nat} (h : SubOwn w lo g r) (hb : Below w.heap.size w w') : SubOwn w' lo g r := ⟨h.1, h.2.1.below hb, h.2.2⟩
theorem SubOwn.low {g : Option Nat} (h : SubOwn w lo g r) (hl : lo' ≤ lo) : SubOwn w lo' g r := ⟨h.1, h.2.1.low hl, h.2.2⟩
theorem HOwn.rd (h : HOwn w lo A n c rs) : HRd w A n rs := ⟨h.1.rd.low (Nat.zero_le _), fun r hr => (h.2 r hr).at_⟩
theorem HOwn.below (h : HOwn w lo A n c rs) (hb : Below w.heap.size w w') : HOwn w' lo A n c rs := ⟨h.1.below hb, fun r hr => (h.2 r hr).below hb⟩
theorem HOwn.low (h : HOwn w lo A n c rs) (hl : lo' ≤ lo) : HOwn w lo' A n c rs := ⟨h.1.low hl, fun r hr => (h.2 r hr).low hl⟩
theorem HOwn.nil (w : World) (lo : Nat) (A : Option Addr) : HOwn w lo A 0 0 [] := ⟨Own.nil _ _ _ _ _, fun r hr => by cases hr⟩
theorem HOwn.len (h : HOwn w lo A n c rs) : rs.length = n := h.rd.len
/-- Behind a change of blocks below lo. -/
theorem Fr.keepB {sz m : Nat} {B : Option Addr} {xs : List Value} {bad : Nat → Prop} (hsz : 0 < sz) (h : Fr w lo sz B m xs) (hc : Chg w w' bad) (hb : 0 < m → ∀ b o, B = some ⟨b, o, none⟩ → ¬ bad b) : Fr w' lo sz B m xs := by
  rcases Nat.eq_zero_or_pos m with h0 | hm
  · subst h0
    exact ⟨⟨h.1.1, fun hp => absurd hp (by omega)⟩, fun hp => absurd hp (Nat.lt_irrefl _)⟩
  · obtain ⟨b, o, e, hlo, hlt, hx⟩ := h.1.lt (Nat.mul_pos hm hsz)
    refine ⟨h.1.keep fun b' hb' ⟨o', e'⟩ => hc.block b' hb' (hb hm b' o' e'), fun _ b' o' e' => ?_⟩
    obtain ⟨t, cs, hB⟩ := h.2 hm b' o' e'
    exact ⟨t, cs, hc.blk hB (hb hm b' o' e')⟩
theorem SubOwn.chg {g : Option Nat} {bad : Nat → Prop} (h : SubOwn w lo g r) (hc : Chg w w' bad) (hb : ∀ b, lo ≤ b → bad b → some b = g) : SubOwn w' lo g r := by
  refine ⟨h.1, h.2.1.keepB (by omega) hc fun hm b o e hbad => h.2.2 hm b o e (hb b ?_ hbad), h.2.2⟩
  obtain ⟨b', o', e', hlo, _⟩ := h.2.1.1.2 (by omega)
  rw [e] at e'
  cases e'
  exact hlo
end

theorem number_any (n : Int) (w : World) : Calls Tryd.prog 33 #[.int .i64 n] w fun e w' => e = .returned (.bool (isNum n)) ∧ w' = w := by
  unfold isNum
  by_cases h1 : 0 ≤ n
  · rw [decide_eq_true h1]
    by_cases h2 : n < 1073741824
    · rw [decide_eq_true h2]
      go_enter Tryd.func33, Tryd.ntmps33
      go_wp2
      go_ret
      exact ⟨rfl, rfl⟩
    · rw [decide_eq_false h2]
      go_enter Tryd.func33, Tryd.ntmps33
      go_wp2
      go_ret
      exact ⟨rfl, rfl⟩
  · rw [decide_eq_false h1]
    go_enter Tryd.func33, Tryd.ntmps33
    go_wp2
    go_ret
    exact ⟨rfl, rfl⟩
theorem number_lit (q : Bool) (n : Int) (h : isNum n = q) (w : World) : Calls Tryd.prog 33 #[.int .i64 n] w fun e w' => e = .returned (.bool q) ∧ w' = w := by
  subst h
  exact number_any n w
def zeroS : Array Value := #[.int .i64 0, .int .i64 0, .slice none 0 0, .bool false]
theorem sub_info : (Tryd.prog.info? 53).map (fun i => (i.zero, i.size, i.bytes)) = some (some (.agg zeroS), 4, 48) := by kernel_rfl
theorem zeroS_cells : (Value.agg zeroS).cells.size = 4 := rfl
theorem zeroS_run (w : World) : (zeroValue 53).run Tryd.prog w = .ok (.agg zeroS) w := by kernel_rfl
theorem sub_size (a b c d : Value) : (Tryd.prog.info? 53).map (·.size) = some (#[a, b, c, d] : Array Value).size := by
  show _ = some 4
  kernel_rfl
theorem rs_size (r : RS) : (Tryd.prog.info? 53).map (·.size) = some (rsL r).length := by
  show _ = some 4
  kernel_rfl
theorem hub_size (a b : Value) : (Tryd.prog.info? 24).map (·.size) = some (#[a, b] : Array Value).size := by
  show _ = some 2
  kernel_rfl
theorem hub_zero (w : World) : (zeroValue 24).run Tryd.prog w = .ok (.agg #[.int .i64 0, .slice none 0 0]) w := by kernel_rfl
theorem hub_built (w : World) : (Instr.build 24 #[]).run Tryd.prog w = .ok (.agg #[.int .i64 0, .slice none 0 0]) w := by kernel_rfl
theorem one_hub (n : Int) (A : Option Addr) (m c : Nat) : ∀ v ∈ (#[.int .i64 n, .slice A m c] : Array Value), v.oneCell' = true := by
  intro v hv
  simp at hv
  rcases hv with rfl | rfl <;> rfl

set_option maxHeartbeats 1000000 in
theorem cloneS_any (A : Option Addr) (n c : Nat) (rs : List RS) (w : World) (hr : Rd w 0 4 A n (rssL rs)) (hn : n ≤ 1000) :
    Calls Tryd.prog 46 #[.slice A n c] w fun e w' => ∃ D d, e = .returned (.slice D n d) ∧ Own w' w.heap.size 53 4 D n d (rssL rs) ∧ Below w.heap.size w w' := by
  obtain ⟨i0, hi0, hz0, hz1, hz2⟩ := info_parts sub_info
  have hE := fun W => Lib.run_eql_slice_nil (P := Tryd.prog) W 22 53 A n c 0 0 Tryd.underlying22
  cases A with
  | none =>
    obtain rfl : n = 0 := by
      rcases Nat.eq_zero_or_pos n with h | h
      · exact h
      · obtain ⟨b, o, e, _⟩ := hr.2 (by omega)
        cases e
    have hl := hr.1
    have e0 : rssL rs = [] := List.eq_nil_of_length_eq_zero (by simpa using hl)
    rw [e0]
    go_enter Tryd.func46, Tryd.ntmps46
    go_wp2
    go_ret
    exact ⟨_, _, rfl, Own.nil _ _ _ _ _, Below.refl _ _⟩
  | some a =>
    have hone := hid (rssL_one rs)
    generalize hL : rssL rs = L at *
    clear hL
    go_enter Tryd.func46, Tryd.ntmps46
    go_wp2_with (at_builtin; refine wpList_app _ rfl _ _ _ rfl w.heap.size 53 i0 _ 4 48 Tryd.underlying22 hi0 hz0 hz1 hz2 zeroS_cells (by omega) _ 0 0 [] rfl (Own.nil _ _ _ _ _) (some a) n c 0 L rfl (hr.alloc _) hone.out (by simp only [maxLen]; omega) (by omega) (by simp) ?_; intro D' c' w1 hown hg hat)
    go_ret
    simp only [Nat.zero_add, List.nil_append] at hown ⊢
    exact ⟨D', c', rfl, hown, ((Below.refl _ _).alloc (Nat.le_refl _) _).grown hg (by simp) (by simp [rowOf])⟩
end Go.Proofs.YtmepbokoopgmiaaDoor
