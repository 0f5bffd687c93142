/-
  Contracts of the law's find, of the reference's Great and of a tap's Same; a hub that lies in memory. No condition beyond those each theorem names.
-/
import Derived.Test.YtmepbokoopgmiaaDoorHubI
namespace Go.Proofs.YtmepbokoopgmiaaDoor
open Go.RowKit
set_option linter.unusedSimpArgs false
set_option linter.unusedVariables false

/-- A hub's subscribers lie in memory. -/
def HubIn (w : World) (h : Hub) (D : Option Addr) (m : Nat) : Prop := ∃ rs, HRd w D m rs ∧ subs rs = h.2
theorem HubIn.below {w w' : World} {h : Hub} {D : Option Addr} {m : Nat} (hh : HubIn w h D m) (hb : Below w.heap.size w w') : HubIn w' h D m := by
  obtain ⟨rs, h1, h2⟩ := hh
  exact ⟨rs, h1.below hb, h2⟩
theorem HubIn.nil (w : World) : HubIn w zeroHub none 0 := ⟨[], ⟨Rd.nil _ _ _ _, fun r hr => by cases hr⟩, rfl⟩
theorem HubIn.len {w : World} {h : Hub} {D : Option Addr} {m : Nat} (hh : HubIn w h D m) : h.2.length = m := by
  obtain ⟨rs, h1, h2⟩ := hh
  rw [← h2]
  simpa [subs] using h1.len
theorem HubIn.its {w : World} {h : Hub} {D : Option Addr} {m : Nat} (hh : HubIn w h D m) : ∀ s ∈ h.2, ItsOk s.2.2.1 := by
  obtain ⟨rs, h1, h2⟩ := hh
  rw [← h2]
  exact h1.its
/-- A hub of the call's own, from lo on. -/
def HubOn (w : World) (lo : Nat) (h : Hub) (D : Option Addr) (m c : Nat) : Prop := ∃ rs, HOwn w lo D m c rs ∧ subs rs = h.2
theorem HubOn.in_ {w : World} {lo m c : Nat} {h : Hub} {D : Option Addr} (hh : HubOn w lo h D m c) : HubIn w h D m := by
  obtain ⟨rs, h1, h2⟩ := hh
  exact ⟨rs, h1.rd, h2⟩
theorem HubOn.chg {w w' : World} {lo m c : Nat} {h : Hub} {D : Option Addr} {bad : Nat → Prop} (hh : HubOn w lo h D m c) (hc : Chg w w' bad) (hb : ∀ b, lo ≤ b → ¬ bad b) : HubOn w' lo h D m c := by
  obtain ⟨rs, h1, h2⟩ := hh
  exact ⟨rs, h1.chg hc hb, h2⟩
theorem HubOn.low {w : World} {lo lo' m c : Nat} {h : Hub} {D : Option Addr} (hh : HubOn w lo h D m c) (hl : lo' ≤ lo) : HubOn w lo' h D m c := by
  obtain ⟨rs, h1, h2⟩ := hh
  exact ⟨rs, h1.low hl, h2⟩
theorem HubOn.below {w w' : World} {lo m c : Nat} {h : Hub} {D : Option Addr} (hh : HubOn w lo h D m c) (hb : Below w.heap.size w w') : HubOn w' lo h D m c := by
  obtain ⟨rs, h1, h2⟩ := hh
  exact ⟨rs, h1.below hb, h2⟩
theorem join_lit {h : Hub} {most fr : Int} (r : Hub × Int × Int) (hr : joinT h most fr = r) (D : Option Addr) (m c : Nat) (w : World) (hh : HubIn w h D m) (hG : GOk w) :
    Calls Tryd.prog 11 #[.agg #[.int .i64 h.1, .slice D m c], .int .i64 most, .int .i64 fr] w fun e w' => ∃ D' m' c', e = .returned (.tuple #[.agg #[.int .i64 r.1.1, .slice D' m' c'], .int .i64 r.2.1, .int .i64 r.2.2]) ∧ HubOn w' w.heap.size r.1 D' m' c' ∧ Below w.heap.size w w' := by
  obtain ⟨rs, h1, h2⟩ := hh
  have := hjoin_any h.1 D m c rs most fr w h1 hG
  rw [h2, show ((h.1, h.2) : Hub) = h from rfl, hr] at this
  exact this.mono fun e w' ⟨D', m', c', rs', he, hs, hO, hb⟩ => ⟨D', m', c', he, ⟨rs', hO, hs⟩, hb⟩
theorem leave_lit {h : Hub} {id : Int} (r : Hub × Int) (hr : leaveT h id = r) (D : Option Addr) (m c : Nat) (w : World) (hh : HubIn w h D m) (hG : GOk w) :
    Calls Tryd.prog 10 #[.agg #[.int .i64 h.1, .slice D m c], .int .i64 id] w fun e w' => ∃ D' m' c', e = .returned (.tuple #[.agg #[.int .i64 r.1.1, .slice D' m' c'], .int .i64 r.2]) ∧ HubOn w' w.heap.size r.1 D' m' c' ∧ Below w.heap.size w w' := by
  obtain ⟨rs, h1, h2⟩ := hh
  have := hleave_any h.1 D m c rs id w h1 hG
  rw [h2, show ((h.1, h.2) : Hub) = h from rfl, hr] at this
  exact this.mono fun e w' ⟨D', m', c', rs', he, hs, hO, hb⟩ => ⟨D', m', c', he, ⟨rs', hO, hs⟩, hb⟩
theorem poll_litH {h : Hub} {id : Int} (r : Hub × It × Int) (hr : pollHT h id = r) (D : Option Addr) (m c : Nat) (w : World) (hh : HubIn w h D m) (hG : GOk w) :
    Calls Tryd.prog 9 #[.agg #[.int .i64 h.1, .slice D m c], .int .i64 id] w fun e w' => ∃ D' m' c', e = .returned (.tuple #[.agg #[.int .i64 r.1.1, .slice D' m' c'], .agg (itL r.2.1).toArray, .int .i64 r.2.2]) ∧ HubOn w' w.heap.size r.1 D' m' c' ∧ Below w.heap.size w w' := by
  obtain ⟨rs, h1, h2⟩ := hh
  have := hpoll_any h.1 D m c rs id w h1 hG
  rw [h2, show ((h.1, h.2) : Hub) = h from rfl, hr] at this
  exact this.mono fun e w' ⟨D', m', c', rs', he, hs, hO, hb⟩ => ⟨D', m', c', he, ⟨rs', hO, hs⟩, hb⟩
theorem tell_lit {h : Hub} {room : Int} {ev : Ev} (hev : HdOk ev.2.2) (r : Hub × Int) (hr : tellT h room ev = r) (D : Option Addr) (m c : Nat) (w : World) (hh : HubIn w h D m) (hG : GOk w) :
    Calls Tryd.prog 7 #[.agg #[.int .i64 h.1, .slice D m c], .int .i64 room, .agg (evL ev).toArray] w fun e w' => ∃ D' m' c', e = .returned (.tuple #[.agg #[.int .i64 r.1.1, .slice D' m' c'], .int .i64 r.2]) ∧ HubOn w' w.heap.size r.1 D' m' c' ∧ Below w.heap.size w w' := by
  obtain ⟨rs, h1, h2⟩ := hh
  have := htell_any h.1 D m c rs room ev hev w h1 hG
  rw [h2, show ((h.1, h.2) : Hub) = h from rfl, hr] at this
  exact this.mono fun e w' ⟨D', m', c', rs', he, hs, hO, hb⟩ => ⟨D', m', c', he, ⟨rs', hO, hs⟩, hb⟩
theorem check_litH {h : Hub} (q : Int) (hq : errOf (hubMay h) = q) (D : Option Addr) (m c : Nat) (w : World) (hh : HubIn w h D m) (hG : GOk w) :
    Calls Tryd.prog 13 #[.agg #[.int .i64 h.1, .slice D m c]] w fun e w' => e = .returned (.int .i64 q) ∧ Below w.heap.size w w' := by
  obtain ⟨rs, h1, h2⟩ := hh
  exact hcheck_lit q h.1 D m c rs (by rw [h2]; exact hq) w h1 hG

/-- What find gives. -/
def fdT (o : Option Sub) : List It × Bool × Bool := match o with | some s => (s.2.2.1, s.2.2.2, true) | none => ([], false, false)
/-- Whether a hub is great: where not, what is known of it. -/
def GivesG (w : World) (m : Nat) (l : List Sub) (e : Ending) (w' : World) : Prop := ∃ b, e = .returned (.bool b) ∧ Below w.heap.size w w' ∧ (b = false → m ≤ 18 ∧ ∀ s ∈ l, s.2.2.1.length ≤ 20)
/-- What find answers. -/
def GivesFd (w : World) (r : List It × Bool × Bool) (e : Ending) (w' : World) : Prop := ∃ A n k, e = .returned (.tuple #[.agg #[.slice A n k, .bool r.2.1], .bool r.2.2]) ∧ ItsOk r.1 ∧ Rd w' 0 101 A n (itsL r.1) ∧ Below w.heap.size w w'
theorem findT_eq {id : Int} {l : List Sub} {k : Nat} {s : Sub} (hs : l[k]? = some s) (h1 : s.1 = id) (h2 : ∀ j t, j < k → l[j]? = some t → t.1 ≠ id) : findT l id = some s := by
  unfold findT
  rw [List.find?_eq_some_iff_getElem]
  obtain ⟨hk, e⟩ := List.getElem?_eq_some_iff.1 hs
  refine ⟨by simpa using h1, k, hk, e, fun j hj => ?_⟩
  have := h2 j _ hj (List.getElem?_eq_getElem (by omega))
  simpa using this
theorem findT_none {id : Int} {l : List Sub} (h2 : ∀ j t, j < l.length → l[j]? = some t → t.1 ≠ id) : findT l id = none :=
  find_none fun s hs => by
    obtain ⟨j, hj, e⟩ := List.getElem_of_mem hs
    exact h2 j s hj (by rw [← e]; exact List.getElem?_eq_getElem hj)
theorem nextNo {id : Int} {l : List Sub} {k : Nat} {s : Sub} (h : ∀ j t, j < k → l[j]? = some t → t.1 ≠ id) (hs : l[k]? = some s) (hn : s.1 ≠ id) : ∀ j t, j < k + 1 → l[j]? = some t → t.1 ≠ id := fun j t hj ht => by
  rcases Nat.lt_succ_iff_lt_or_eq.1 hj with h1 | rfl
  · exact h j t h1 ht
  · rw [hs] at ht
    cases ht
    exact hn

set_option maxRecDepth 100000 in
set_option maxHeartbeats 4000000 in
theorem find_any (h : Hub) (D : Option Addr) (m c : Nat) (id : Int) (w : World) (hh : HubIn w h D m) (hm : m ≤ 1000) :
    Calls Tryd.prog 15 #[.agg #[.int .i64 h.1, .slice D m c], .int .i64 id] w (GivesFd w (fdT (findT h.2 id))) := by
  obtain ⟨rs, hR, hS⟩ := hh
  have hl := hid hR.len
  have HR := hid hR
  have HS := hid hS
  clear hR hS
  go_enter Tryd.func15, Tryd.ntmps15
  go_wp2_with (first
    | (refine wpList_bx rfl 24 _ rfl #[.int .i64 h.1, .slice D m c] rfl ?_; intro w1 hB1 hb1 hy; have hz1 := hid hy; clear hy)
    | ((with_reducible refine at_alloc 47 ?_); refine wpList_al rfl 47 rfl _ (tap_zero _) ?_; intro w2 hB2 hb2 hy; clear hy))
  have X0 := hid (below_chain hb1 hb2)
  have X1 := hid (hB1.belowS hb2)
  have X2 := hid hB2
  have hs1 : w.heap.size < w1.heap.size := by have := hz1.out; omega
  have RR := hid (HR.out.below X0.out)
  clear hB1 hb1 hz1 hB2 hb2
  go_loop [6] (fun i => ∃ k : Nat, k ≤ m ∧ i = .int .i64 k ∧ ∀ j t, j < k → h.2[j]? = some t → t.1 ≠ id) (fun i => m - (intOf i).toNat)
  case atStart => exact ⟨0, Nat.zero_le _, rfl, fun j t hj => absurd hj (Nat.not_lt_zero _)⟩
  case round =>
    obtain ⟨k, hk, rfl, hno⟩ := hrel
    have HN := hid hno
    clear hno
    obtain ⟨a0, a1, a2, a3⟩ := two_facts X1.out
    obtain ⟨c0, c1, c2, c3⟩ := two_facts X2.out
    by_cases hlt : k < m
    · have hx : rs[k]? = some (rs[k]'(by have := hl.out; omega)) := List.getElem?_eq_getElem _
      generalize rs[k]'(by have := hl.out; omega) = r at hx
      obtain ⟨b, o, hD, hbl, rx⟩ := RR.out.at_ hx
      have ra := hid (RR.out.2 r (List.mem_of_getElem? hx))
      have hsx : h.2[k]? = some r.1 := by rw [← HS.out]; simp [subs, hx]
      subst hD
      obtain ⟨ad, had⟩ : ∃ ad, o + k * 4 = ad := ⟨_, rfl⟩
      have r0 : w2.cell? ⟨b, ad, none⟩ = some (.int .i64 r.1.1) := by rw [← had]; exact rx 0 _ rfl
      have r2 : w2.cell? ⟨b, ad + 2, none⟩ = some (.slice r.2.1 r.2.2.1 r.2.2.2) := by rw [← had]; exact rx 2 _ rfl
      have r3 : w2.cell? ⟨b, ad + 2 + 1, none⟩ = some (.bool r.1.2.2.2) := by rw [← had]; exact rx 3 _ rfl
      have hti : (k : Int) < (m : Int) := by omega
      have htz : (0 : Int) ≤ (k : Int) := by omega
      have HSX := hid hsx
      have hmem := List.mem_of_getElem? hx
      clear hx hsx rx
      by_cases he : r.1.1 = id
      · have he' : (r.1.1 == id) = true := by simpa using he
        have hft := hid (findT_eq HSX.out he HN.out)
        go_wp2
        have B := X2.out.both (c := .slice r.2.1 r.2.2.1 r.2.2.2) (d := .bool r.1.2.2.2)
        have hCg := chg_both w2 w1.heap.size (.slice r.2.1 r.2.2.1 r.2.2.2) (.bool r.1.2.2.2)
        have hbf := below_chgA X0.out hCg (by omega)
        have hrr := hid ((HR.out.2 r hmem).below hbf)
        generalize (w2.setCell ⟨w1.heap.size, 0, none⟩ (.slice r.2.1 r.2.2.1 r.2.2.2)).setCell ⟨w1.heap.size, 1, none⟩ (.bool r.1.2.2.2) = wf at *
        obtain ⟨g0, g1, _, _⟩ := two_facts B
        refine bodyPost_ret (v := .tuple #[.agg #[.slice r.2.1 r.2.2.1 r.2.2.2, .bool r.1.2.2.2], .bool true]) (by simp [results, Tryd.f15, go_sem, g0, g1]) rfl ?_
        rw [hft.out]
        exact ⟨_, _, _, rfl, hrr.out.1, hrr.out.2, hbf⟩
      · have he' : (r.1.1 == id) = false := by simpa using he
        go_wp2
        exact ⟨⟨k + 1, by omega, by go_num, nextNo HN.out HSX.out he⟩, by simp [intOf]; omega⟩
    · obtain rfl : k = m := by omega
      have hti : ¬ (k : Int) < (k : Int) := by omega
      have hft := hid (findT_none (l := h.2) (id := id) (fun j t hj ht => HN.out j t (by have e : h.2.length = k := (by rw [← HS.out]; simp [subs]; exact hl.out); omega) ht))
      go_wp2_with (((with_reducible refine at_build 47 ?_); refine wpList_bd rfl 47 rfl _ (tap_built _) ?_))
      have B := X2.out.both (c := .slice none 0 0) (d := .bool false)
      have hCg := chg_both w2 w1.heap.size (.slice none 0 0) (.bool false)
      have hbf := below_chgA X0.out hCg (by omega)
      generalize (w2.setCell ⟨w1.heap.size, 0, none⟩ (.slice none 0 0)).setCell ⟨w1.heap.size, 1, none⟩ (.bool false) = wf at *
      obtain ⟨g0, g1, _, _⟩ := two_facts B
      refine bodyPost_ret (v := .tuple #[.agg #[.slice none 0 0, .bool false], .bool false]) (by simp [results, Tryd.f15, go_sem, g0, g1]) rfl ?_
      rw [hft.out]
      exact ⟨_, _, _, rfl, itsOk_nil, Rd.nil _ _ _ _, hbf⟩

set_option maxRecDepth 100000 in
set_option maxHeartbeats 4000000 in
theorem great_any (h : Hub) (D : Option Addr) (m c : Nat) (w : World) (hh : HubIn w h D m) :
    Calls Tryd.prog 14 #[.agg #[.int .i64 h.1, .slice D m c]] w (GivesG w m h.2) := by
  obtain ⟨rs, hR, hS⟩ := hh
  have hl := hid hR.len
  have HR := hid hR
  have HS := hid hS
  have hmx : m ≤ 9223372036854775807 ∨ True := .inr trivial
  clear hR hS
  go_enter Tryd.func14, Tryd.ntmps14
  go_wp2_with (first
    | (refine wpList_bx rfl 24 _ rfl #[.int .i64 h.1, .slice D m c] rfl ?_; intro w1 hB1 hb1 hy; clear hy))
  have X0 := hid hb1
  have X1 := hid hB1
  have RR := hid (HR.out.below X0.out)
  clear hB1 hb1
  go_loop [3] (fun i => ∃ k : Nat, k ≤ m ∧ k ≤ 20 ∧ i = .int .i64 k ∧ ∀ j t, j < k → h.2[j]? = some t → t.2.2.1.length ≤ 20) (fun i => 20 - (intOf i).toNat)
  case atStart => exact ⟨0, Nat.zero_le _, by omega, rfl, fun j t hj => absurd hj (Nat.not_lt_zero _)⟩
  case round =>
    obtain ⟨k, hk, hk20, rfl, hno⟩ := hrel
    have HN := hid hno
    clear hno
    obtain ⟨a0, a1, a2, a3⟩ := two_facts X1.out
    have htz : (0 : Int) ≤ (k : Int) := by omega
    by_cases hlt : k < m
    · have hti : (k : Int) < (m : Int) := by omega
      by_cases h20 : k < 20
      · have ht20 : (k : Int) < 20 := by omega
        have hx : rs[k]? = some (rs[k]'(by have := hl.out; omega)) := List.getElem?_eq_getElem _
        generalize rs[k]'(by have := hl.out; omega) = r at hx
        obtain ⟨b, o, hD, hbl, rx⟩ := RR.out.at_ hx
        have ra := hid ((RR.out.2 r (List.mem_of_getElem? hx)).len)
        have hsx : h.2[k]? = some r.1 := by rw [← HS.out]; simp [subs, hx]
        subst hD
        obtain ⟨ad, had⟩ : ∃ ad, o + k * 4 = ad := ⟨_, rfl⟩
        have r2 : w1.cell? ⟨b, ad + 2, none⟩ = some (.slice r.2.1 r.2.2.1 r.2.2.2) := by rw [← had]; exact rx 2 _ rfl
        have HSX := hid hsx
        clear rx hx hsx
        by_cases hg : 20 < r.2.2.1
        · have hg' : (20 : Int) < (r.2.2.1 : Int) := by omega
          go_wp2
          go_ret
          exact ⟨true, rfl, X0.out, fun h => by cases h⟩
        · have hg' : ¬ (20 : Int) < (r.2.2.1 : Int) := by omega
          go_wp2
          refine ⟨⟨k + 1, by omega, by omega, by go_num, fun j t hj ht => ?_⟩, by simp [intOf]; omega⟩
          rcases Nat.lt_succ_iff_lt_or_eq.1 hj with h1 | rfl
          · exact HN.out j t h1 ht
          · rw [HSX.out] at ht
            cases ht
            have := ra.out
            omega
      · have ht20 : ¬ (k : Int) < 20 := by omega
        have hgt : (18 : Int) < (m : Int) := by omega
        go_wp2
        go_ret
        exact ⟨true, rfl, X0.out, fun h => by cases h⟩
    · obtain rfl : k = m := by omega
      have hti : ¬ (k : Int) < (k : Int) := by omega
      by_cases hg : 18 < k
      · have hg' : (18 : Int) < (k : Int) := by omega
        go_wp2
        go_ret
        exact ⟨true, rfl, X0.out, fun h => by cases h⟩
      · have hg' : ¬ (18 : Int) < (k : Int) := by omega
        go_wp2
        go_ret
        refine ⟨false, rfl, X0.out, fun _ => ⟨by omega, fun s hs => ?_⟩⟩
        obtain ⟨j, hj, e⟩ := List.getElem_of_mem hs
        refine HN.out j s ?_ (by rw [← e]; exact List.getElem?_eq_getElem hj)
        have e : h.2.length = k := by rw [← HS.out]; simp [subs]; exact hl.out
        omega
end Go.Proofs.YtmepbokoopgmiaaDoor
