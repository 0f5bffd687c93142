/-
  The walks of the law LockNames: three, alive. No condition.
-/
import Derived.Test.YtopicgodflhjcaaLockD
namespace Go.Proofs.Ytopicgodflhjcaa
open Go.RowKit Go.Shelf

theorem take_to (o x : Int) (A : Option Addr) (len cap : Nat) (ws : List Int) (w : World) (hlen : len ≤ 1000) (hR : Rd w 0 1 A len (ws.map iv)) (R : Int × List Int × Bool × Int) (h : takeL o ws x = R) :
    Calls Try.prog 8 #[.agg #[.int .i64 o, .slice A len cap], .int .i64 x] w (GivesT w R) := h ▸ takeLock_any o x A len cap ws w hlen hR
theorem free_to (o x : Int) (A : Option Addr) (len cap : Nat) (ws : List Int) (w : World) (hlen : len ≤ 1000) (hR : Rd w 0 1 A len (ws.map iv)) (R : Int × List Int × Int × Int) (h : freeL o ws x = R) :
    Calls Try.prog 6 #[.agg #[.int .i64 o, .slice A len cap], .int .i64 x] w (GivesF w R) := h ▸ freeLock_any o x A len cap ws w hlen hR
theorem ahead_to (o x : Int) (A : Option Addr) (len cap : Nat) (ws : List Int) (w : World) (hlen : len ≤ 1000) (hR : Rd w 0 1 A len (ws.map iv)) (a b : Int) (h : aheadL o ws x = (a, b)) :
    Calls Try.prog 11 #[.agg #[.int .i64 o, .slice A len cap], .int .i64 x] w fun e w' => e = .returned (.tuple #[.int .i64 a, .int .i64 b]) ∧ Below w.heap.size w w' := by
  have := ahead_any o x A len cap ws w hlen hR
  rw [h] at this
  exact this
theorem check_to (o : Int) (A : Option Addr) (len cap : Nat) (ws : List Int) (w : World) (hlen : len ≤ 1000) (hR : Rd w 0 1 A len (ws.map iv)) (a : Int) (h : errOf (mayL o ws) = a) :
    Calls Try.prog 10 #[.agg #[.int .i64 o, .slice A len cap]] w fun e w' => e = .returned (.int .i64 a) ∧ Below w.heap.size w w' := h ▸ check_any o A len cap ws w hlen hR
theorem Fr.below {w w' : World} {lo n : Nat} {A : Option Addr} {xs : List Int} (h : Fr w lo A n xs) (hb : Below w.heap.size w w') : Fr w' lo A n xs :=
  ⟨h.1.below hb, fun hn b o e => by obtain ⟨t, cs, hB⟩ := h.2 hn b o e; exact ⟨t, cs, hB.belowS hb⟩⟩
theorem Fr.len {w : World} {lo n : Nat} {A : Option Addr} {xs : List Int} (h : Fr w lo A n xs) : xs.length = n := by simpa using h.1.1
theorem Fr.rd0 {w : World} {lo n : Nat} {A : Option Addr} {xs : List Int} (h : Fr w lo A n xs) : Rd w 0 1 A n (xs.map iv) := h.1.low (Nat.zero_le _)
theorem below_chain {w0 w1 w2 : World} (h : Below w0.heap.size w0 w1) (k : Below w1.heap.size w1 w2) : Below w0.heap.size w0 w2 := h.trans (k.mono h.size)

/-- A lock as a result. -/
def GivesK (w : World) (o : Int) (xs : List Int) (e : Ending) (w' : World) : Prop := ∃ D n c, e = .returned (.agg #[.int .i64 o, .slice D n c]) ∧ Fr w' w.heap.size D n xs ∧ Below w.heap.size w w'

theorem Blk.both {w : World} {g : Nat} {t : TypeId} {a b c d : Value} (h : Blk w g t #[a, b]) : Blk ((w.setCell ⟨g, 0, none⟩ c).setCell ⟨g, 1, none⟩ d) g t #[c, d] := (h.set_ 0 c).set_ 1 d
theorem chg_both (w : World) (g : Nat) (c d : Value) : Chg w ((w.setCell ⟨g, 0, none⟩ c).setCell ⟨g, 1, none⟩ d) (fun b => b = g) := ((Chg.refl w (fun b => b = g)).setCell (g := g) (i := 0) c (.inl rfl)).setCell (g := g) (i := 1) d (.inl rfl)
theorem Rd.chg {w w' : World} {lo sz n : Nat} {A : Option Addr} {xs : List Value} {bad : Nat → Prop} (h : Rd w lo sz A n xs) (hc : Chg w w' bad) (hb : ∀ b, lo ≤ b → ¬ bad b) : Rd w' lo sz A n xs :=
  ⟨h.1, fun hn => by
    obtain ⟨b, o, e, hlo, hlt, hx⟩ := h.lt hn
    exact ⟨b, o, e, hlo, fun j hj => (World.cell?_of_block (a := ⟨b, o + j, none⟩) (hc.block b hlt (hb b hlo))).trans (hx j hj)⟩⟩
theorem Fr.chg {w w' : World} {lo n : Nat} {A : Option Addr} {xs : List Int} {bad : Nat → Prop} (h : Fr w lo A n xs) (hc : Chg w w' bad) (hb : ∀ b, lo ≤ b → ¬ bad b) : Fr w' lo A n xs :=
  ⟨h.1.chg hc hb, fun hn b o e => by
    obtain ⟨t, cs, hB⟩ := h.2 hn b o e
    obtain ⟨b', o', e', hlo, _⟩ := h.1.2 (by omega)
    rw [e] at e'
    cases e'
    exact ⟨t, cs, hc.blk hB (hb b hlo)⟩⟩
theorem Fr.low {w : World} {lo lo' n : Nat} {A : Option Addr} {xs : List Int} (h : Fr w lo A n xs) (hl : lo' ≤ lo) : Fr w lo' A n xs := ⟨h.1.low hl, h.2⟩

set_option maxHeartbeats 2000000 in
theorem three_any (w : World) : Calls Try.prog 7 #[] w (GivesK w 1 [2, 3]) := by
  have H0 := hid (Blk.new w 24 #[.int .i64 0, .slice none 0 0])
  have HS := hid (below_alloc1 w (.cells #[.int .i64 0, .slice none 0 0] 24))
  go_enter Try.func7, Try.ntmps7
  go_wp2_with fail
  have hs0 : (w.alloc (.cells #[.int .i64 0, .slice none 0 0] 24)).heap.size = w.heap.size + 1 := by simp
  generalize w.alloc (.cells #[.int .i64 0, .slice none 0 0] 24) = w0 at *
  (with_reducible refine (take_to 0 1 none 0 0 [] _ (by omega) (Rd.nil _ _ _ _) (1, [], true, 0) (by decide)).mono ?_); rintro e w1 ⟨D1, n1, c1, rfl, hF1, hb1⟩
  obtain rfl : 0 = n1 := hF1.len
  go_wp2_with fail
  have B1 := Blk.new w1 24 #[.int .i64 1, .slice D1 0 c1]
  have hv1 := below_alloc1 w1 (.cells #[.int .i64 1, .slice D1 0 c1] 24)
  generalize w1.alloc (.cells #[.int .i64 1, .slice D1 0 c1] 24) = v1 at *
  (with_reducible refine (take_to 1 2 D1 0 c1 [] v1 (by omega) (Rd.nil _ _ _ _) (1, [2], false, 0) (by decide)).mono ?_); rintro e w2 ⟨D2, n2, c2, rfl, hF2, hb2⟩
  obtain rfl : 1 = n2 := hF2.len
  obtain ⟨a0, a1, a2, a3⟩ := two_facts (B1.belowS hb2)
  go_wp2_with fail
  have B2 := (B1.belowS hb2).both (c := .int .i64 1) (d := .slice D2 1 c2)
  have hc2 := chg_both w2 w1.heap.size (.int .i64 1) (.slice D2 1 c2)
  have hF2' := hF2.chg hc2 (fun b hb e => by have := B1.lt; omega)
  generalize (w2.setCell ⟨w1.heap.size, 0, none⟩ (.int .i64 1)).setCell ⟨w1.heap.size, 1, none⟩ (.slice D2 1 c2) = v2 at *
  clear a0 a1 a2 a3
  (with_reducible refine (take_to 1 3 D2 1 c2 [2] v2 (by omega) hF2'.rd0 (1, [2, 3], false, 0) (by decide)).mono ?_); rintro e w3 ⟨D3, n3, c3, rfl, hF3, hb3⟩
  obtain rfl : 2 = n3 := hF3.len
  obtain ⟨a0, a1, a2, a3⟩ := two_facts (B2.belowS hb3)
  have z1 := hb1.size
  have z2 := hv1.size
  have z3 := hb2.size
  have z4 := hc2.size
  have z5 := hb3.size
  have b02 := HS.out.trans ((hb1.trans ((hv1.trans (hb2.mono z2)).mono z1)).mono (by omega))
  have b03 := (b02.trans (hc2.below b02.size (fun b e => by omega))).trans (hb3.mono (by omega))
  obtain ⟨d0, d1, d2, d3⟩ := two_facts ((hc2.blk (((H0.out.belowS hb1).belowS hv1).belowS hb2) (by omega)).belowS hb3)
  have hne : w.heap.size ≠ w1.heap.size := by omega
  have hne' : w1.heap.size ≠ w.heap.size := by omega
  go_wp2_with fail
  have hc3 := (chg_both w3 w1.heap.size (.int .i64 1) (.slice D3 2 c3))
  have hc4 := (chg_both ((w3.setCell ⟨w1.heap.size, 0, none⟩ (.int .i64 1)).setCell ⟨w1.heap.size, 1, none⟩ (.slice D3 2 c3)) w.heap.size (.int .i64 1) (.slice D3 2 c3))
  have B0 := (hc3.blk ((hc2.blk (((H0.out.belowS hb1).belowS hv1).belowS hb2) (by omega)).belowS hb3) (by omega)).both (c := .int .i64 1) (d := .slice D3 2 c3)
  have hcf := hc3.trans hc4 (bad := fun b => b = w1.heap.size ∨ b = w.heap.size) (fun b e => .inl e) (fun b _ e => .inr e)
  have z6 := B1.lt
  have hFf := hF3.chg hcf (fun b hb e => by omega)
  have hbf := b03.trans (hcf.below b03.size (fun b e => by omega))
  generalize (((w3.setCell ⟨w1.heap.size, 0, none⟩ (.int .i64 1)).setCell ⟨w1.heap.size, 1, none⟩ (.slice D3 2 c3)).setCell ⟨w.heap.size, 0, none⟩ (.int .i64 1)).setCell ⟨w.heap.size, 1, none⟩ (.slice D3 2 c3) = wf at *
  obtain ⟨g0, g1, _, _⟩ := two_facts B0
  exact bodyPost_ret (v := .agg #[.int .i64 1, .slice D3 2 c3]) (by simp [results, Try.f7, go_sem, g0, g1]) rfl ⟨D3, 2, c3, rfl, hFf.low (by omega), hbf⟩

set_option maxHeartbeats 2000000 in
theorem alive_any (w : World) : Calls Try.prog 9 #[] w fun e w' => e = .returned (.bool true) ∧ Below w.heap.size w w' := by
  go_enter Try.func9, Try.ntmps9
  go_wp2_with fail
  (with_reducible refine (take_to 0 1 none 0 0 [] _ (by omega) (Rd.nil _ _ _ _) (1, [], true, 0) (by decide)).mono ?_); rintro e w1 ⟨D1, n1, c1, rfl, hF1, hb1⟩
  obtain rfl : 0 = n1 := hF1.len
  go_wp2_with fail
  have B1 := Blk.new w1 24 #[.int .i64 1, .slice D1 0 c1]
  have hv1 := below_alloc1 w1 (.cells #[.int .i64 1, .slice D1 0 c1] 24)
  generalize w1.alloc (.cells #[.int .i64 1, .slice D1 0 c1] 24) = v1 at *
  (with_reducible refine (take_to 1 2 D1 0 c1 [] v1 (by omega) (Rd.nil _ _ _ _) (1, [2], false, 0) (by decide)).mono ?_); rintro e w2 ⟨D2, n2, c2, rfl, hF2, hb2⟩
  go_wp2_with fail
  have B2 := (B1.belowS hb2).alloc (.cells #[.int .i64 1, .slice D2 n2 c2] 24)
  have hv2 := below_chain (below_chain (below_chain hb1 hv1) hb2) (below_alloc1 w2 (.cells #[.int .i64 1, .slice D2 n2 c2] 24))
  generalize w2.alloc (.cells #[.int .i64 1, .slice D2 n2 c2] 24) = v2 at *
  clear hb1 hv1 hb2 hF1 hF2 B1
  (with_reducible refine (three_any v2).mono ?_); rintro e w3 ⟨D3, n3, c3, rfl, hF3, hb3⟩
  obtain rfl : 2 = n3 := hF3.len
  go_wp2_with fail
  (with_reducible refine (free_to 1 1 D3 2 c3 [2, 3] w3 (by omega) hF3.rd0 (2, [3], 2, 0) (by decide)).mono ?_); rintro e w4 ⟨D4, n4, c4, rfl, hF4, hb4⟩
  obtain rfl : 1 = n4 := hF4.len
  go_wp2_with fail
  have hv4 := below_alloc1 w4 (.cells #[.int .i64 2, .slice D4 1 c4] 24)
  have hF4' := hF4.below hv4
  have B4 := ((B2.belowS hb3).belowS hb4).belowS hv4
  generalize w4.alloc (.cells #[.int .i64 2, .slice D4 1 c4] 24) = v4 at *
  (with_reducible refine (ahead_to 2 3 D4 1 c4 [3] v4 (by omega) hF4'.rd0 1 0 (by decide)).mono ?_); rintro e w5 ⟨rfl, hb5⟩
  have hbf := below_chain (below_chain (below_chain (below_chain hv2 hb3) hb4) hv4) hb5
  obtain ⟨g0, _, _, _⟩ := two_facts (B4.belowS hb5)
  go_wp2
  go_ret
  exact ⟨rfl, hbf⟩

set_option maxHeartbeats 4000000 in
theorem lockNames_law {w : World} : Calls Try.prog 3 #[] w fun e w' => e = .returned (.bool true) ∧ Below w.heap.size w w' := by
  go_enter Try.func3, Try.ntmps3
  go_wp2_with fail
  (with_reducible refine (three_any w).mono ?_); rintro e w1 ⟨D1, n1, c1, rfl, hF1, hb1⟩
  obtain rfl : 2 = n1 := hF1.len
  go_wp2_with fail
  (with_reducible refine (free_to 1 3 D1 2 c1 [2, 3] w1 (by omega) hF1.rd0 (0, [], 0, 2) (by decide)).mono ?_); rintro e w2 ⟨D2, n2, c2, rfl, hF2, hb2⟩
  go_wp2_with fail
  have hb3 := below_chain (below_chain hb1 hb2) (below_alloc1 w2 (.cells #[.int .i64 0, .slice D2 n2 c2] 24))
  generalize w2.alloc (.cells #[.int .i64 0, .slice D2 n2 c2] 24) = w3 at *
  clear hb1 hb2 hF1 hF2
  (with_reducible refine (three_any w3).mono ?_); rintro e w4 ⟨D4, n4, c4, rfl, hF4, hb4⟩
  obtain rfl : 2 = n4 := hF4.len
  go_wp2_with fail
  (with_reducible refine (take_to 1 2 D4 2 c4 [2, 3] w4 (by omega) hF4.rd0 (0, [], false, 2) (by decide)).mono ?_); rintro e w5 ⟨D5, n5, c5, rfl, hF5, hb5⟩
  go_wp2_with fail
  have hb6 := below_chain (below_chain (below_chain hb3 hb4) hb5) (below_alloc1 w5 (.cells #[.int .i64 0, .slice D5 n5 c5] 24))
  generalize w5.alloc (.cells #[.int .i64 0, .slice D5 n5 c5] 24) = w6 at *
  clear hb3 hb4 hb5 hF4 hF5
  (with_reducible refine (take_to 0 0 none 0 0 [] w6 (by omega) (Rd.nil _ _ _ _) (0, [], false, 2) (by decide)).mono ?_); rintro e w7 ⟨D7, n7, c7, rfl, hF7, hb7⟩
  go_wp2_with fail
  have hb8 := below_chain (below_chain hb6 hb7) (below_alloc1 w7 (.cells #[.int .i64 0, .slice D7 n7 c7] 24))
  generalize w7.alloc (.cells #[.int .i64 0, .slice D7 n7 c7] 24) = w8 at *
  clear hb6 hb7 hF7
  (with_reducible refine (take_to 0 17 none 0 0 [] w8 (by omega) (Rd.nil _ _ _ _) (0, [], false, 2) (by decide)).mono ?_); rintro e w9 ⟨D9, n9, c9, rfl, hF9, hb9⟩
  go_wp2_with fail
  have hb10 := below_chain (below_chain hb8 hb9) (below_alloc1 w9 (.cells #[.int .i64 0, .slice D9 n9 c9] 24))
  generalize w9.alloc (.cells #[.int .i64 0, .slice D9 n9 c9] 24) = w10 at *
  clear hb8 hb9 hF9
  (with_reducible refine (alive_any w10).mono ?_); rintro e w11 ⟨rfl, hb11⟩
  go_wp2_with fail
  (with_reducible refine (check_to 0 (some ⟨w11.heap.size, 0, none⟩) 1 1 [1] _ (by omega) ((Rd.lit w11 3 1 [iv 1] rfl).low (Nat.zero_le _)) 8 (by decide)).mono ?_); rintro e w12 ⟨rfl, hb12⟩
  have hb13 := below_chain (below_chain hb10 hb11) (below_al hb12)
  clear hb10 hb11 hb12
  go_wp2_with fail
  (with_reducible refine (check_to 1 (some ⟨w12.heap.size, 0, none⟩) 1 1 [1] _ (by omega) ((Rd.lit w12 3 1 [iv 1] rfl).low (Nat.zero_le _)) 8 (by decide)).mono ?_); rintro e w14 ⟨rfl, hb14⟩
  have hb15 := below_chain hb13 (below_al hb14)
  clear hb13 hb14
  go_wp2
  go_ret
  exact ⟨rfl, hb15⟩
end Go.Proofs.Ytopicgodflhjcaa
