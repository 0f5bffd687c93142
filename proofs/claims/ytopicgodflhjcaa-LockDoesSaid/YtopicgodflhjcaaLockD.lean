/-
  Contracts of lock's queue, Take and Free. No condition beyond those each theorem names.
-/
import Derived.Test.YtopicgodflhjcaaLockC
import Derived.RegionTactic
import Derived.ChangeAlike
namespace Go.Proofs.Ytopicgodflhjcaa
open Go.RowKit Go.Shelf

/-- What may have changed: the blocks of 'bad', and new ones. -/
structure Chg (w w' : World) (bad : Nat → Prop) : Prop where
  os : w'.os = w.os
  tape : w'.tape = w.tape
  output : w'.output = w.output
  size : w.heap.size ≤ w'.heap.size
  block : ∀ b, b < w.heap.size → ¬ bad b → w'.heap[b]? = w.heap[b]?
theorem Chg.below {w w' : World} {bad : Nat → Prop} (h : Chg w w' bad) {B : Nat} (hB : B ≤ w.heap.size) (hb : ∀ b, bad b → B ≤ b) : Below B w w' :=
  ⟨h.os, h.tape, h.output, h.size, fun b hl => h.block b (by omega) (fun hx => by have := hb b hx; omega)⟩
theorem Chg.of_grown {w w' : World} {row : Option Nat} (h : w.grownBy w' row) : Chg w w' (fun b => row = some b) := ⟨h.os, h.tape, h.output, h.size, fun b hl hn => h.block b hl (fun e => hn e.symm)⟩
theorem Chg.trans {w1 w2 w3 : World} {b1 b2 bad : Nat → Prop} (h : Chg w1 w2 b1) (k : Chg w2 w3 b2) (h1 : ∀ b, b1 b → bad b) (h2 : ∀ b, b < w1.heap.size → b2 b → bad b) : Chg w1 w3 bad :=
  ⟨k.os.trans h.os, k.tape.trans h.tape, k.output.trans h.output, Nat.le_trans h.size k.size, fun b hl hn => (k.block b (Nat.lt_of_lt_of_le hl h.size) (fun hx => hn (h2 b hl hx))).trans (h.block b hl (fun hx => hn (h1 b hx)))⟩
theorem Chg.setCell {w w' : World} {bad : Nat → Prop} (h : Chg w w' bad) {g i : Nat} (u : Value) (hg : bad g ∨ w.heap.size ≤ g) : Chg w (w'.setCell ⟨g, i, none⟩ u) bad :=
  ⟨h.os, h.tape, h.output, by simpa [World.setCell] using h.size, fun b hl hn => (Below.heap_setCell w' ⟨g, i, none⟩ u b (by
    intro (e : b = g)
    rcases hg with hg | hg
    · exact hn (e ▸ hg)
    · omega)).trans (h.block b hl hn)⟩
theorem Chg.alloc {w w' : World} {bad : Nat → Prop} (h : Chg w w' bad) (o : Obj) : Chg w (w'.alloc o) bad :=
  ⟨h.os, h.tape, h.output, by have := h.size; simp; omega, fun b hl hn => (Below.heap_alloc w' o b (Nat.lt_of_lt_of_le hl h.size)).trans (h.block b hl hn)⟩
theorem Chg.refl (w : World) (bad : Nat → Prop) : Chg w w bad := ⟨rfl, rfl, rfl, Nat.le_refl _, fun _ _ _ => rfl⟩
theorem Chg.blk {w w' : World} {bad : Nat → Prop} (h : Chg w w' bad) {g : Nat} {t : TypeId} {cs : Array Value} (hb : Blk w g t cs) (hn : ¬ bad g) : Blk w' g t cs := (h.block g hb.lt hn).trans hb

theorem Own.setRow {w : World} {lo sz n c : Nat} {e : TypeId} {A : Option Addr} {xs : List Value} (h : Own w lo e sz A n c xs) {b i : Nat} (hb : rowOf A c ≠ some b) (u : Value) : Own (w.setCell ⟨b, i, none⟩ u) lo e sz A n c xs :=
  h.keep fun k _ hk => Below.heap_setCell w ⟨b, i, none⟩ u k (by intro (e : k = b); exact hb (e ▸ hk))

/-- What put leaves. -/
def PutsQ (w : World) (g lo : Nat) (D : Option Addr) (c : Nat) (xs : List Int) (e : Ending) (w' : World) : Prop :=
  (∃ v, e = .returned v) ∧ ∃ D' c', Blk w' g 51 #[.slice D' xs.length c'] ∧ Own w' lo 3 1 D' xs.length c' (xs.map iv) ∧ Chg w w' (fun b => b = g ∨ rowOf D c = some b)
theorem puts_q {w w' : World} {g lo : Nat} {D : Option Addr} {c n : Nat} {xs : List Int} {v : Value} {D' : Option Addr} {c' : Nat} (hB : Blk w' g 51 #[.slice D' n c']) (hO : Own w' lo 3 1 D' n c' (xs.map iv)) (hC : Chg w w' (fun b => b = g ∨ rowOf D c = some b)) : PutsQ w g lo D c xs (.returned v) w' := by
  have hn : xs.length = n := by simpa using hO.len
  subst hn
  exact ⟨⟨_, rfl⟩, _, _, hB, hO, hC⟩

set_option maxHeartbeats 1000000 in
theorem put_any (g lo : Nat) (D : Option Addr) (n c : Nat) (xs : List Int) (x : Int) (w : World) (hB : Blk w g 51 #[.slice D n c]) (hO : Own w lo 3 1 D n c (xs.map iv)) (hgr : rowOf D c ≠ some g) (hlo : lo ≤ w.heap.size) (hn : n ≤ 1000) :
    Calls Try.prog 25 #[.pointer (some ⟨g, 0, none⟩), .int .i64 x] w (PutsQ w g lo D c (xs ++ [x])) := by
  obtain ⟨i0, hi0, hz0, hz1, hz2⟩ := info_parts int_info
  have hc0 := hB.cellv (i := 0) (v := .slice D n c) rfl
  have hf0 := hB.frozen 0
  have HB := hid (hB.alloc (.cells #[iv x] 3))
  have HL := hid hB.lt
  have HGR := hid hgr
  clear hB hgr
  go_enter Try.func25, Try.ntmps25
  go_wp2_with (at_builtin; refine wpList_app _ rfl _ _ _ rfl lo 3 i0 _ 1 8 Try.underlying22 hi0 hz0 hz1 hz2 rfl (by omega) D n c (xs.map iv) rfl (hO.alloc _) (some ⟨w.heap.size, 0, none⟩) 1 1 w.heap.size [iv x] rfl (Rd.lit w _ 1 [iv x] rfl) (iv_one [x]) (by simp only [maxLen]; omega) (by omega) (by simp; omega) ?_; intro D' c' w1 hown hg hat; have bB := HB.out.grown hg (fun e => HGR.out e.symm); have d0 := bB.cellv (i := 0) (v := .slice D n c) rfl; have d1 := bB.frozen 0)
  have hne : rowOf D' c' ≠ some g := by
    have := HL.out
    rcases hat with e | e | e
    · rw [e]; exact HGR.out
    · rw [e]; exact fun h => by cases h
    · rw [e]; simp; omega
  have hC1 := ((((Chg.refl w (fun b => b = g ∨ rowOf D c = some b)).alloc (.cells #[iv x] 3)).trans (Chg.of_grown hg) (fun _ h => h) (fun b _ h => .inr h))).setCell (g := g) (i := 0) (.slice D' (n + 1) c') (.inl (.inl rfl))
  have hO1 := hown.setRow (i := 0) hne (.slice D' (n + 1) c')
  have hB1 := bB.set_ 0 (.slice D' (n + 1) c')
  refine bodyPost_ret (results_none rfl _ _ _) rfl ?_
  exact puts_q hB1 (by simpa using hO1) hC1

/-- What take leaves. -/
def TakesQ (w : World) (g : Nat) (D : Option Addr) (n : Nat) (xs : List Int) (e : Ending) (w' : World) : Prop :=
  e = .returned (.int .i64 (xs.headD 0)) ∧ ∃ D' c', Blk w' g 51 #[.slice D' (n - 1) c'] ∧ Rd w' 0 1 D' (n - 1) (xs.tail.map iv) ∧ (∀ b o, D' = some ⟨b, o, none⟩ → ∃ o', D = some ⟨b, o', none⟩) ∧ Chg w w' (fun b => b = g)
set_option maxHeartbeats 1000000 in
theorem take_any (g lo : Nat) (D : Option Addr) (n c : Nat) (xs : List Int) (w : World) (hB : Blk w g 51 #[.slice D n c]) (hR : Rd w lo 1 D n (xs.map iv)) (hnc : n ≤ c) (hgd : 0 < n → ∀ o, D ≠ some ⟨g, o, none⟩) :
    Calls Try.prog 23 #[.pointer (some ⟨g, 0, none⟩)] w (TakesQ w g D n xs) := by
  have hc0 := hB.cellv (i := 0) (v := .slice D n c) rfl
  have hf0 := hB.frozen 0
  have hl : xs.length = n := by simpa using hR.1
  have hne := hid hgd
  clear hgd
  cases xs with
  | nil =>
    obtain rfl : 0 = n := hl
    go_enter Try.func23, Try.ntmps23
    go_wp2
    go_ret
    exact ⟨rfl, D, c, hB, hR.low (Nat.zero_le _), fun b o h => ⟨o, h⟩, Chg.refl _ _⟩
  | cons x xs =>
    simp only [List.length_cons] at hl
    obtain ⟨b, o, rfl, hlo, hx⟩ := hR.int (k := 0) (by omega)
    simp only [List.getElem?_cons_zero, Option.getD_some, Nat.add_zero] at hx
    have hnz : (0 : Int) < (n : Int) := by omega
    have h1n : (1 : Int) ≤ (n : Int) := by omega
    have h1c : (n : Int) ≤ (c : Int) := by omega
    go_enter Try.func23, Try.ntmps23
    go_wp2
    go_region
    generalize hD : (if c = 1 then some (⟨b, o, none⟩ : Addr) else some (⟨b, o + 1, none⟩ : Addr)) = D' at *
    have HD := hid hD
    clear hD
    have hBd := (hB.set_ 0 (.slice D' (n - 1) (c - 1))).drew
    go_wp2
    go_ret
    refine ⟨rfl, D', c - 1, hBd, ?_, ?_, ?_⟩
    · refine ⟨by simp; omega, fun hn => ⟨b, o + 1, ?_, Nat.zero_le _, fun j hj => ?_⟩⟩
      · rw [← HD.out, if_neg (by omega)]
      · have hjn : j + 1 < n := by omega
        obtain ⟨b', o', e, _, hcj⟩ := hR.2 (by omega)
        cases e
        have h1 := hcj (j + 1) (by omega)
        rw [show o + 1 + j = o + (j + 1) by omega]
        have hbg : b ≠ g := fun e => hne.out (by omega) o (by rw [e])
        have h2 := (World.cell?_of_block (a := ⟨b, o + (j + 1), none⟩) (Below.heap_setCell w ⟨g, 0, none⟩ (.slice D' (n - 1) (c - 1)) b hbg)).trans h1
        refine Eq.trans h2 ?_
        simp
    · intro b' o' e
      rw [← HD.out] at e
      split at e <;> cases e <;> exact ⟨_, rfl⟩
    · exact ⟨rfl, rfl, rfl, by simp [World.drew, World.setCell], fun k hk hn => Below.heap_setCell w ⟨g, 0, none⟩ _ k hn⟩

/-- Reads as xs, in a block from lo on that may be written. -/
def Fr (w : World) (lo : Nat) (A : Option Addr) (n : Nat) (xs : List Int) : Prop := Rd w lo 1 A n (xs.map iv) ∧ (0 < n → ∀ b o, A = some ⟨b, o, none⟩ → ∃ t cs, Blk w b t cs)
theorem Own.fr {w : World} {lo n c : Nat} {e : TypeId} {A : Option Addr} {xs : List Int} (h : Own w lo e 1 A n c (xs.map iv)) : Fr w lo A n xs := by
  refine ⟨h.rd, fun hn b o ho => ?_⟩
  rcases h with ⟨h0, _⟩ | ⟨g, cur, rfl, hlo, hg, _⟩
  · omega
  · cases ho
    exact ⟨_, _, hg⟩
/-- A lock that a task takes. -/
def takeL (o : Int) (ws : List Int) (x : Int) : Int × List Int × Bool × Int :=
  if askedE o ws x ≠ 0 then (0, [], false, askedE o ws x) else if 0 ≤ fnd (allL o ws) x then (0, [], false, 2) else if o = 0 then (x, ws, true, 0) else (o, ws ++ [x], false, 0)
/-- What Take answers. -/
def GivesT (w : World) (r : Int × List Int × Bool × Int) (e : Ending) (w' : World) : Prop :=
  ∃ D n c, e = .returned (.tuple #[.agg #[.int .i64 r.1, .slice D n c], .bool r.2.2.1, .int .i64 r.2.2.2]) ∧ Fr w' w.heap.size D n r.2.1 ∧ Below w.heap.size w w'
theorem Fr.nil (w : World) (lo : Nat) (A : Option Addr) : Fr w lo A 0 [] := ⟨Rd.nil _ _ _ _, fun h => absurd h (Nat.lt_irrefl _)⟩

set_option maxHeartbeats 2000000 in
theorem take_bad (o x : Int) (A : Option Addr) (len cap : Nat) (ws : List Int) (w : World) (hlen : len ≤ 1000) (hR : Rd w 0 1 A len (ws.map iv)) (hbad : askedE o ws x ≠ 0 ∨ 0 ≤ fnd (allL o ws) x) :
    Calls Try.prog 8 #[.agg #[.int .i64 o, .slice A len cap], .int .i64 x] w (GivesT w (takeL o ws x)) := by
  have hC := hid (fun W (h : Rd W 0 1 A len (ws.map iv)) => asked_any o x A len cap ws W hlen h)
  have hF := hid (fun W (h : Rd W 0 1 A len (ws.map iv)) => find_any o x A len cap ws W hlen h)
  have H1 := hid ((Blk.new w 24 #[.int .i64 o, .slice A len cap]).alloc (.cells #[.int .i64 0, .slice none 0 0] 24))
  have H2 := hid (Blk.new (w.alloc (.cells #[.int .i64 o, .slice A len cap] 24)) 24 #[.int .i64 0, .slice none 0 0])
  have hR1 := hid ((hR.below (below_alloc1 w (.cells #[.int .i64 o, .slice A len cap] 24))).alloc (.cells #[.int .i64 0, .slice none 0 0] 24))
  have HTL : Hid (takeL o ws x = if askedE o ws x ≠ 0 then (0, [], false, askedE o ws x) else (0, [], false, 2)) := hid (by
    unfold takeL
    split
    · rfl
    · rcases hbad with h | h
      · contradiction
      · rw [if_pos h])
  clear hR
  generalize takeL o ws x = R at *
  generalize askedE o ws x = E at *
  generalize fnd (allL o ws) x = Z at *
  by_cases he : E = 0
  · subst he
    have hz : 0 ≤ Z := by rcases hbad with h | h; exact absurd rfl h; exact h
    obtain rfl : R = (0, [], false, 2) := HTL.out.trans (by simp)
    clear HTL hbad
    go_enter Try.func8, Try.ntmps8
    go_wp2_with (first
      | ((with_reducible refine (hC.out _ hR1.out).mono ?_); rintro e w1 ⟨rfl, hb1⟩; obtain ⟨a0, a1, a2, a3⟩ := two_facts (H1.out.belowS hb1))
      | ((with_reducible refine (hF.out _ (hR1.out.below hb1)).mono ?_); rintro e w2 ⟨rfl, hb2⟩; obtain ⟨c0, c1, c2, c3⟩ := two_facts ((H2.out.belowS hb1).belowS hb2); simp only [World.size_alloc] at c0 c1 c2 c3))
    have hB2 := ((below_al (below_al (hb1.trans (hb2.mono hb1.size)))).setCell (p := ⟨w.heap.size + 1, 0, none⟩) (by simp) (.int .i64 0)).setCell (p := ⟨w.heap.size + 1, 1, none⟩) (by simp) (.slice none 0 0)
    exact bodyPost_ret (v := .tuple #[.agg #[.int .i64 0, .slice none 0 0], .bool false, .int .i64 2]) (by simp [results, Try.f8, go_sem, c0, c1]) rfl ⟨none, 0, 0, rfl, Fr.nil _ _ _, hB2⟩
  · have he' : (E != 0) = true := by simpa [bne] using he
    obtain rfl : R = (0, [], false, E) := HTL.out.trans (by rw [if_pos he])
    clear HTL hbad he
    go_enter Try.func8, Try.ntmps8
    go_wp2_with ((with_reducible refine (hC.out _ hR1.out).mono ?_); rintro e w1 ⟨rfl, hb1⟩; obtain ⟨c0, c1, c2, c3⟩ := two_facts (H2.out.belowS hb1); simp only [World.size_alloc] at c0 c1 c2 c3)
    have hB2 := ((below_al (below_al hb1)).setCell (p := ⟨w.heap.size + 1, 0, none⟩) (by simp) (.int .i64 0)).setCell (p := ⟨w.heap.size + 1, 1, none⟩) (by simp) (.slice none 0 0)
    exact bodyPost_ret (v := .tuple #[.agg #[.int .i64 0, .slice none 0 0], .bool false, .int .i64 E]) (by simp [results, Try.f8, go_sem, c0, c1]) rfl ⟨none, 0, 0, rfl, Fr.nil _ _ _, hB2⟩

set_option maxHeartbeats 2000000 in
theorem take_good (o x : Int) (A : Option Addr) (len cap : Nat) (ws : List Int) (w : World) (hlen : len ≤ 1000) (hR : Rd w 0 1 A len (ws.map iv)) (he : askedE o ws x = 0) (hz : fnd (allL o ws) x < 0) :
    Calls Try.prog 8 #[.agg #[.int .i64 o, .slice A len cap], .int .i64 x] w (GivesT w (takeL o ws x)) := by
  have hC := hid (fun W (h : Rd W 0 1 A len (ws.map iv)) => asked_any o x A len cap ws W hlen h)
  have hF := hid (fun W (h : Rd W 0 1 A len (ws.map iv)) => find_any o x A len cap ws W hlen h)
  have hW := hid (fun W (h : Rd W 0 1 A len (ws.map iv)) => twin_any o A len cap ws W hlen h)
  have H1 := hid ((Blk.new w 24 #[.int .i64 o, .slice A len cap]).alloc (.cells #[.int .i64 0, .slice none 0 0] 24))
  have H2 := hid (Blk.new (w.alloc (.cells #[.int .i64 o, .slice A len cap] 24)) 24 #[.int .i64 0, .slice none 0 0])
  have hR1 := hid ((hR.below (below_alloc1 w (.cells #[.int .i64 o, .slice A len cap] 24))).alloc (.cells #[.int .i64 0, .slice none 0 0] 24))
  have hll : ws.length = len := by simpa using hR.1
  have HLL := hid hll
  have HTL : Hid (takeL o ws x = if o = 0 then (x, ws, true, 0) else (o, ws ++ [x], false, 0)) := hid (by
    unfold takeL
    rw [if_neg (by simp [he]), if_neg (by omega)])
  rw [he] at hC
  clear hR he hll
  generalize takeL o ws x = R at *
  generalize fnd (allL o ws) x = Z at *
  by_cases ho : o = 0
  · subst ho
    obtain rfl : R = (x, ws, true, 0) := HTL.out.trans (by simp)
    clear HTL
    go_enter Try.func8, Try.ntmps8
    go_wp2_with (first
      | ((with_reducible refine (hC.out _ hR1.out).mono ?_); rintro e w1 ⟨rfl, hb1⟩; obtain ⟨a0, a1, a2, a3⟩ := two_facts (H1.out.belowS hb1))
      | ((with_reducible refine (hF.out _ (hR1.out.below hb1)).mono ?_); rintro e w2 ⟨rfl, hb2⟩; obtain ⟨e0, e1, e2, e3⟩ := two_facts ((H1.out.belowS hb1).belowS hb2))
      | ((with_reducible refine (hW.out _ ((hR1.out.below hb1).below hb2)).mono ?_); rintro e w3 ⟨D, c, rfl, hO, hb3⟩; obtain ⟨c0, c1, c2, c3⟩ := two_facts (((H2.out.belowS hb1).belowS hb2).belowS hb3); simp only [World.size_alloc] at c0 c1 c2 c3))
    have hz2 : w.heap.size + 2 ≤ w2.heap.size := by have h1 := hb1.size; have h2 := hb2.size; simp at h1; omega
    have hb03 := below_al (below_al (hb1.trans ((hb2.trans (hb3.mono hb2.size)).mono hb1.size)))
    have hCh := (((((Chg.refl w3 (fun b => b = w.heap.size + 1)).setCell (i := 0) (.int .i64 0) (.inl rfl)).setCell (i := 1) (.slice D ws.length c) (.inl rfl)).setCell (i := 0) (.int .i64 x) (.inl rfl)).setCell (i := 0) (.int .i64 x) (.inl rfl)).setCell (i := 1) (.slice D ws.length c) (.inl rfl)
    have hOf := (hO.keep fun b hl hr => hCh.block b hl (fun e => by have := (hO.row_lt b hr).1; omega)).low (lo' := w.heap.size) (by omega)
    have bT := ((((((H2.out.belowS hb1).belowS hb2).belowS hb3).set_ 0 (.int .i64 0)).set_ 1 (.slice D ws.length c)).set_ 0 (.int .i64 x)).set_ 0 (.int .i64 x)
    have bT := bT.set_ 1 (.slice D ws.length c)
    simp only [World.size_alloc] at bT
    generalize ((((w3.setCell ⟨w.heap.size + 1, 0, none⟩ (.int .i64 0)).setCell ⟨w.heap.size + 1, 1, none⟩ (.slice D ws.length c)).setCell ⟨w.heap.size + 1, 0, none⟩ (.int .i64 x)).setCell ⟨w.heap.size + 1, 0, none⟩ (.int .i64 x)).setCell ⟨w.heap.size + 1, 1, none⟩ (.slice D ws.length c) = wf at *
    have g0 := bT.cellv (i := 0) (v := .int .i64 x) rfl
    have g1 := bT.cellv (i := 1) (v := .slice D ws.length c) rfl
    exact bodyPost_ret (v := .tuple #[.agg #[.int .i64 x, .slice D ws.length c], .bool true, .int .i64 0]) (by simp [results, Try.f8, go_sem, g0, g1]) rfl ⟨D, ws.length, c, rfl, hOf.fr, hb03.trans (hCh.below hb03.size (fun b e => by omega))⟩
  · have ho' : (o == 0) = false := by simpa using ho
    obtain rfl : R = (o, ws ++ [x], false, 0) := HTL.out.trans (by rw [if_neg ho])
    clear HTL ho
    go_enter Try.func8, Try.ntmps8
    go_wp2_with (first
      | ((with_reducible refine (hC.out _ hR1.out).mono ?_); rintro e w1 ⟨rfl, hb1⟩; obtain ⟨a0, a1, a2, a3⟩ := two_facts (H1.out.belowS hb1))
      | ((with_reducible refine (hF.out _ (hR1.out.below hb1)).mono ?_); rintro e w2 ⟨rfl, hb2⟩; obtain ⟨e0, e1, e2, e3⟩ := two_facts ((H1.out.belowS hb1).belowS hb2))
      | ((with_reducible refine (hW.out _ ((hR1.out.below hb1).below hb2)).mono ?_); rintro e w3 ⟨D, c, rfl, hO, hb3⟩; obtain ⟨c0, c1, c2, c3⟩ := two_facts (((H2.out.belowS hb1).belowS hb2).belowS hb3); simp only [World.size_alloc] at c0 c1 c2 c3))
    have hz2 : w.heap.size + 2 ≤ w2.heap.size := by have h1 := hb1.size; have h2 := hb2.size; simp at h1; omega
    have hb03 := below_al (below_al (hb1.trans ((hb2.trans (hb3.mono hb2.size)).mono hb1.size)))
    have hb3s := hb3.size
    have hCh := (((Chg.refl w3 (fun b => b = w.heap.size + 1)).setCell (i := 0) (.int .i64 o) (.inl rfl)).setCell (i := 1) (.slice D ws.length c) (.inl rfl)).alloc (.cells #[.slice D ws.length c] 51)
    have hO5 := hO.keep fun b hl hr => hCh.block b hl (fun e => by have := (hO.row_lt b hr).1; omega)
    have bB := Blk.new ((w3.setCell ⟨w.heap.size + 1, 0, none⟩ (.int .i64 o)).setCell ⟨w.heap.size + 1, 1, none⟩ (.slice D ws.length c)) 51 #[.slice D ws.length c]
    have bT := ((((((H2.out.belowS hb1).belowS hb2).belowS hb3).set_ 0 (.int .i64 o)).set_ 1 (.slice D ws.length c))).alloc (.cells #[.slice D ws.length c] 51)
    simp only [World.size_setCell, World.size_alloc] at bB bT
    generalize hW5 : ((w3.setCell ⟨w.heap.size + 1, 0, none⟩ (.int .i64 o)).setCell ⟨w.heap.size + 1, 1, none⟩ (.slice D ws.length c)).alloc (.cells #[.slice D ws.length c] 51) = w5 at *
    have hne : rowOf D c ≠ some w3.heap.size := fun e => by have := (hO.row_lt _ e).2; omega
    have hs5 : w3.heap.size + 1 = w5.heap.size := by rw [← hW5]; simp
    clear hW5
    refine (put_any w3.heap.size w2.heap.size D ws.length c ws x w5 bB hO5 hne (by omega) (by have := HLL.out; omega)).mono ?_
    rintro e w6 ⟨⟨v, rfl⟩, D', c', bB6, hO6, hC6⟩
    have bT6 := hC6.blk bT (by
      rintro (e | e)
      · omega
      · have := (hO.row_lt _ e).1; omega)
    obtain ⟨g0, g1, g2, g3⟩ := two_facts bT6
    have q0 := bB6.cellv (i := 0) (v := .slice D' (ws ++ [x]).length c') rfl
    have hnx : (ws ++ [x]).length = ws.length + 1 := by simp
    rw [hnx] at hO6
    have hNX := hid hnx
    clear hnx
    go_wp2
    have hCf := ((((Chg.refl w6 (fun b => b = w.heap.size + 1)).setCell (i := 1) (.slice D' (ws.length + 1) c') (.inl rfl)).setCell (i := 0) (.int .i64 o) (.inl rfl)).setCell (i := 1) (.slice D' (ws.length + 1) c') (.inl rfl))
    have hOf := (hO6.keep fun b hl hr => hCf.block b hl (fun e => by have := (hO6.row_lt b hr).1; omega)).low (lo' := w.heap.size) (by omega)
    have bTf := ((bT6.set_ 1 (.slice D' (ws.length + 1) c')).set_ 0 (.int .i64 o)).set_ 1 (.slice D' (ws.length + 1) c')
    have hB5 := hb03.trans (hCh.below hb03.size (fun b e => by omega))
    have hB6 := hB5.trans (hC6.below hB5.size (fun b e => by
      rcases e with e | e
      · omega
      · have := (hO.row_lt _ e).1; omega))
    have hBf := hB6.trans (hCf.below hB6.size (fun b e => by omega))
    generalize ((w6.setCell ⟨w.heap.size + 1, 1, none⟩ (.slice D' (ws.length + 1) c')).setCell ⟨w.heap.size + 1, 0, none⟩ (.int .i64 o)).setCell ⟨w.heap.size + 1, 1, none⟩ (.slice D' (ws.length + 1) c') = wf at *
    have g0 := bTf.cellv (i := 0) (v := .int .i64 o) rfl
    have g1 := bTf.cellv (i := 1) (v := .slice D' (ws.length + 1) c') rfl
    exact bodyPost_ret (v := .tuple #[.agg #[.int .i64 o, .slice D' (ws.length + 1) c'], .bool false, .int .i64 0]) (by simp [results, Try.f8, go_sem, g0, g1]) rfl ⟨D', ws.length + 1, c', rfl, hOf.fr, hBf⟩

theorem takeLock_any (o x : Int) (A : Option Addr) (len cap : Nat) (ws : List Int) (w : World) (hlen : len ≤ 1000) (hR : Rd w 0 1 A len (ws.map iv)) :
    Calls Try.prog 8 #[.agg #[.int .i64 o, .slice A len cap], .int .i64 x] w (GivesT w (takeL o ws x)) := by
  by_cases h : askedE o ws x ≠ 0 ∨ 0 ≤ fnd (allL o ws) x
  · exact take_bad o x A len cap ws w hlen hR h
  · exact take_good o x A len cap ws w hlen hR (by omega) (by omega)

/-- A lock that its owner frees. -/
def freeL (o : Int) (ws : List Int) (x : Int) : Int × List Int × Int × Int :=
  if askedE o ws x ≠ 0 then (0, [], 0, askedE o ws x) else if o ≠ x then (0, [], 0, 2) else (ws.headD 0, ws.tail, ws.headD 0, 0)
/-- What Free answers. -/
def GivesF (w : World) (r : Int × List Int × Int × Int) (e : Ending) (w' : World) : Prop :=
  ∃ D n c, e = .returned (.tuple #[.agg #[.int .i64 r.1, .slice D n c], .int .i64 r.2.2.1, .int .i64 r.2.2.2]) ∧ Fr w' w.heap.size D n r.2.1 ∧ Below w.heap.size w w'

set_option maxHeartbeats 2000000 in
theorem free_bad (o x : Int) (A : Option Addr) (len cap : Nat) (ws : List Int) (w : World) (hlen : len ≤ 1000) (hR : Rd w 0 1 A len (ws.map iv)) (hbad : askedE o ws x ≠ 0 ∨ o ≠ x) :
    Calls Try.prog 6 #[.agg #[.int .i64 o, .slice A len cap], .int .i64 x] w (GivesF w (freeL o ws x)) := by
  have hC := hid (fun W (h : Rd W 0 1 A len (ws.map iv)) => asked_any o x A len cap ws W hlen h)
  have H1 := hid ((Blk.new w 24 #[.int .i64 o, .slice A len cap]).alloc (.cells #[.int .i64 0, .slice none 0 0] 24))
  have H2 := hid (Blk.new (w.alloc (.cells #[.int .i64 o, .slice A len cap] 24)) 24 #[.int .i64 0, .slice none 0 0])
  have hR1 := hid ((hR.below (below_alloc1 w (.cells #[.int .i64 o, .slice A len cap] 24))).alloc (.cells #[.int .i64 0, .slice none 0 0] 24))
  have HTL : Hid (freeL o ws x = if askedE o ws x ≠ 0 then (0, [], 0, askedE o ws x) else (0, [], 0, 2)) := hid (by
    unfold freeL
    split
    · rfl
    · rcases hbad with h | h
      · contradiction
      · rw [if_pos h])
  clear hR
  generalize freeL o ws x = R at *
  generalize askedE o ws x = E at *
  by_cases he : E = 0
  · subst he
    have hz : (o != x) = true := by rcases hbad with h | h; exact absurd rfl h; simpa [bne] using h
    obtain rfl : R = (0, [], 0, 2) := HTL.out.trans (by simp)
    clear HTL hbad
    go_enter Try.func6, Try.ntmps6
    go_wp2_with ((with_reducible refine (hC.out _ hR1.out).mono ?_); rintro e w1 ⟨rfl, hb1⟩; obtain ⟨a0, a1, a2, a3⟩ := two_facts (H1.out.belowS hb1); obtain ⟨c0, c1, c2, c3⟩ := two_facts (H2.out.belowS hb1); simp only [World.size_alloc] at c0 c1 c2 c3)
    have hB2 := ((below_al (below_al hb1)).setCell (p := ⟨w.heap.size + 1, 0, none⟩) (by simp) (.int .i64 0)).setCell (p := ⟨w.heap.size + 1, 1, none⟩) (by simp) (.slice none 0 0)
    exact bodyPost_ret (v := .tuple #[.agg #[.int .i64 0, .slice none 0 0], .int .i64 0, .int .i64 2]) (by simp [results, Try.f6, go_sem, c0, c1]) rfl ⟨none, 0, 0, rfl, Fr.nil _ _ _, hB2⟩
  · have he' : (E != 0) = true := by simpa [bne] using he
    obtain rfl : R = (0, [], 0, E) := HTL.out.trans (by rw [if_pos he])
    clear HTL hbad he
    go_enter Try.func6, Try.ntmps6
    go_wp2_with ((with_reducible refine (hC.out _ hR1.out).mono ?_); rintro e w1 ⟨rfl, hb1⟩; obtain ⟨c0, c1, c2, c3⟩ := two_facts (H2.out.belowS hb1); simp only [World.size_alloc] at c0 c1 c2 c3)
    have hB2 := ((below_al (below_al hb1)).setCell (p := ⟨w.heap.size + 1, 0, none⟩) (by simp) (.int .i64 0)).setCell (p := ⟨w.heap.size + 1, 1, none⟩) (by simp) (.slice none 0 0)
    exact bodyPost_ret (v := .tuple #[.agg #[.int .i64 0, .slice none 0 0], .int .i64 0, .int .i64 E]) (by simp [results, Try.f6, go_sem, c0, c1]) rfl ⟨none, 0, 0, rfl, Fr.nil _ _ _, hB2⟩

set_option maxHeartbeats 2000000 in
theorem free_good (o : Int) (A : Option Addr) (len cap : Nat) (ws : List Int) (w : World) (hlen : len ≤ 1000) (hR : Rd w 0 1 A len (ws.map iv)) (he : askedE o ws o = 0) :
    Calls Try.prog 6 #[.agg #[.int .i64 o, .slice A len cap], .int .i64 o] w (GivesF w (ws.headD 0, ws.tail, ws.headD 0, 0)) := by
  have hC := hid (fun W (h : Rd W 0 1 A len (ws.map iv)) => asked_any o o A len cap ws W hlen h)
  have hK := hid (fun W (h : Rd W 0 1 A len (ws.map iv)) => clone_any A len cap ws W h hlen)
  have H1 := hid ((Blk.new w 24 #[.int .i64 o, .slice A len cap]).alloc (.cells #[.int .i64 0, .slice none 0 0] 24))
  have H2 := hid (Blk.new (w.alloc (.cells #[.int .i64 o, .slice A len cap] 24)) 24 #[.int .i64 0, .slice none 0 0])
  have hR1 := hid ((hR.below (below_alloc1 w (.cells #[.int .i64 o, .slice A len cap] 24))).alloc (.cells #[.int .i64 0, .slice none 0 0] 24))
  rw [he] at hC
  clear hR he
  go_enter Try.func6, Try.ntmps6
  go_wp2_with (first
    | ((with_reducible refine (hC.out _ hR1.out).mono ?_); rintro e w1 ⟨rfl, hb1⟩; obtain ⟨a0, a1, a2, a3⟩ := two_facts (H1.out.belowS hb1))
    | ((with_reducible refine (hK.out _ (hR1.out.below hb1)).mono ?_); rintro e w2 ⟨D, c, rfl, hO, hb2⟩))
  have hz2 : w.heap.size + 2 ≤ w1.heap.size := by have h1 := hb1.size; simp at h1; omega
  have hb2s := hb2.size
  have hb02 := below_al (below_al (hb1.trans (hb2.mono hb1.size)))
  have bB := Blk.new w2 51 #[.slice D ws.length c]
  have bT := ((H2.out.belowS hb1).belowS hb2).alloc (.cells #[.slice D ws.length c] 51)
  have hO3 := hO.alloc (.cells #[.slice D ws.length c] 51)
  have hb03 := hb02.alloc hb02.size (.cells #[.slice D ws.length c] 51)
  simp only [World.size_alloc] at bT
  have hs3 : w2.heap.size + 1 = (w2.alloc (.cells #[.slice D ws.length c] 51)).heap.size := by simp
  have hDg : 0 < ws.length → ∀ i, D ≠ some ⟨w2.heap.size, i, none⟩ := by
    intro hpos i e
    rcases hO with ⟨h0, _⟩ | ⟨g', cur, e', _, hg', _⟩
    · omega
    · rw [e] at e'; cases e'; exact absurd (lt_block hg') (Nat.lt_irrefl _)
  have HOb : Hid (0 < ws.length → ∃ g' cs, D = some ⟨g', 0, none⟩ ∧ w1.heap.size ≤ g' ∧ g' < w2.heap.size ∧ Blk (w2.alloc (.cells #[.slice D ws.length c] 51)) g' 3 cs) := hid fun hpos => by
    rcases hO with ⟨h0, _⟩ | ⟨g', cur, e', hlo', hg', _⟩
    · omega
    · exact ⟨g', cur, e', hlo', lt_block hg', Blk.alloc hg' _⟩
  generalize w2.alloc (.cells #[.slice D ws.length c] 51) = w3 at *
  refine (take_any w2.heap.size w1.heap.size D ws.length c ws w3 bB hO3.rd hO.cap.1 hDg).mono ?_
  rintro e w4 ⟨rfl, D', c', bB4, hR4, hD4, hC4⟩
  have bT4 := hC4.blk bT (by omega)
  obtain ⟨g0, g1, g2, g3⟩ := two_facts bT4
  have q0 := bB4.cellv (i := 0) (v := .slice D' (ws.length - 1) c') rfl
  have hhd : ws.head?.getD 0 = ws.headD 0 := by cases ws <;> rfl
  have HHD := hid hhd
  have HD4 := hid hD4
  clear hhd hD4
  go_wp2
  have hCf := ((Chg.refl w4 (fun b => b = w.heap.size + 1)).setCell (i := 0) (.int .i64 (ws.head?.getD 0)) (.inl rfl)).setCell (i := 1) (.slice D' (ws.length - 1) c') (.inl rfl)
  have bTf := (bT4.set_ 0 (.int .i64 (ws.head?.getD 0))).set_ 1 (.slice D' (ws.length - 1) c')
  have hb04 := hb03.trans (hC4.below hb03.size (fun b e => by omega))
  have hBf := hb04.trans (hCf.below hb04.size (fun b e => by omega))
  generalize (w4.setCell ⟨w.heap.size + 1, 0, none⟩ (.int .i64 (ws.head?.getD 0))).setCell ⟨w.heap.size + 1, 1, none⟩ (.slice D' (ws.length - 1) c') = wf at *
  have g0 := bTf.cellv (i := 0) (v := .int .i64 (ws.head?.getD 0)) rfl
  have g1 := bTf.cellv (i := 1) (v := .slice D' (ws.length - 1) c') rfl
  have hfr : Fr wf w.heap.size D' (ws.length - 1) ws.tail := by
    refine ⟨⟨by simp, fun hn => ?_⟩, fun hn b o e => ?_⟩
    · obtain ⟨b, o, e, _, hc⟩ := hR4.2 hn
      obtain ⟨o', e'⟩ := HD4.out b o e
      obtain ⟨g', cs, e2, h1, h2, h3⟩ := HOb.out (by omega)
      rw [e'] at e2
      cases e2
      have hbl : b < w4.heap.size := by have := hC4.size; omega
      exact ⟨b, o, e, by omega, fun j hj => (World.cell?_of_block (a := ⟨b, o + j, none⟩) (hCf.block b hbl (by omega))).trans (hc j hj)⟩
    · obtain ⟨o', e'⟩ := HD4.out b o e
      obtain ⟨g', cs, e2, h1, h2, h3⟩ := HOb.out (by omega)
      rw [e'] at e2
      cases e2
      exact ⟨_, _, hCf.blk (hC4.blk h3 (by omega)) (by omega)⟩
  rw [← HHD.out]
  exact bodyPost_ret (v := .tuple #[.agg #[.int .i64 (ws.head?.getD 0), .slice D' (ws.length - 1) c'], .int .i64 (ws.head?.getD 0), .int .i64 0]) (by simp [results, Try.f6, go_sem, g0, g1]) rfl ⟨D', ws.length - 1, c', rfl, hfr, hBf⟩

theorem freeLock_any (o x : Int) (A : Option Addr) (len cap : Nat) (ws : List Int) (w : World) (hlen : len ≤ 1000) (hR : Rd w 0 1 A len (ws.map iv)) :
    Calls Try.prog 6 #[.agg #[.int .i64 o, .slice A len cap], .int .i64 x] w (GivesF w (freeL o ws x)) := by
  by_cases h : askedE o ws x ≠ 0 ∨ o ≠ x
  · exact free_bad o x A len cap ws w hlen hR h
  · have h1 : askedE o ws x = 0 := by omega
    obtain rfl : o = x := by omega
    have : freeL o ws o = (ws.headD 0, ws.tail, ws.headD 0, 0) := by
      unfold freeL
      rw [if_neg (by simp [h1]), if_neg (by simp)]
    rw [this]
    exact free_good o A len cap ws w hlen hR h1
end Go.Proofs.Ytopicgodflhjcaa
