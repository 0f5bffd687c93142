/-
  Contracts of lock's asked, Ahead, Twin, Same, Take, Free. No condition beyond those each theorem names.
-/
import Derived.Test.YtopicgodflhjcaaLockB
import Derived.Deep.QuietTactic
import Derived.BigQuiet
namespace Go.Proofs.Ytopicgodflhjcaa
open Go.RowKit Go.Shelf

theorem below_drew {B : Nat} {w w' : World} (h : Below B w w') (n : Nat) : Below B w (w'.drewN n) := ⟨h.os, h.tape, h.output, h.size, h.block⟩
theorem ret_b {a b : Bool} (h : b = a) : Ending.returned (.bool a) = Ending.returned (.bool b) := by rw [h]
theorem below_al {w w' : World} {o : Obj} (h : Below (w.alloc o).heap.size (w.alloc o) w') : Below w.heap.size w w' :=
  ((Below.refl w.heap.size w).alloc (Nat.le_refl _) o).trans (h.mono (by simp))
/-- What a lock and a task are asked first. -/
def askedE (o : Int) (ws : List Int) (x : Int) : Int := if mayL o ws then (if taskB x then 0 else 2) else 8

set_option maxHeartbeats 1000000 in
theorem asked_any (o x : Int) (A : Option Addr) (len cap : Nat) (ws : List Int) (w : World) (hlen : len ≤ 1000) (hR : Rd w 0 1 A len (ws.map iv)) :
    Calls Try.prog 21 #[.agg #[.int .i64 o, .slice A len cap], .int .i64 x] w fun e w' => e = .returned (.int .i64 (askedE o ws x)) ∧ Below w.heap.size w w' := by
  have hC := hid (fun W (h : Rd W 0 1 A len (ws.map iv)) => check_any o A len cap ws W hlen h)
  have hT := hid (task_any x)
  have hR1 := hid (hR.below (below_alloc1 w (.cells #[.int .i64 o, .slice A len cap] 24)))
  unfold askedE
  generalize mayL o ws = q1 at *
  generalize taskB x = q2 at *
  clear hR
  cases q1
  · go_enter Try.func21, Try.ntmps21
    go_wp2_with ((with_reducible refine (hC.out _ hR1.out).mono ?_); rintro e w1 ⟨rfl, hb1⟩; simp only [errOf])
    go_ret
    exact ⟨rfl, below_al hb1⟩
  · cases q2
    all_goals
      go_enter Try.func21, Try.ntmps21
      go_wp2_with (first
        | ((with_reducible refine (hC.out _ hR1.out).mono ?_); rintro e w1 ⟨rfl, hb1⟩; simp only [errOf])
        | ((with_reducible refine (hT.out _).mono ?_); rintro e w2 ⟨rfl, rfl⟩))
      go_ret
      exact ⟨rfl, below_al hb1⟩

/-- How many are ahead. -/
def aheadL (o : Int) (ws : List Int) (x : Int) : Int × Int := if askedE o ws x ≠ 0 then (0, askedE o ws x) else if fnd (allL o ws) x < 0 then (0, 2) else (fnd (allL o ws) x, 0)

set_option maxHeartbeats 1000000 in
theorem ahead_any (o x : Int) (A : Option Addr) (len cap : Nat) (ws : List Int) (w : World) (hlen : len ≤ 1000) (hR : Rd w 0 1 A len (ws.map iv)) :
    Calls Try.prog 11 #[.agg #[.int .i64 o, .slice A len cap], .int .i64 x] w fun e w' => e = .returned (.tuple #[.int .i64 (aheadL o ws x).1, .int .i64 (aheadL o ws x).2]) ∧ Below w.heap.size w w' := by
  have hC := hid (fun W (h : Rd W 0 1 A len (ws.map iv)) => asked_any o x A len cap ws W hlen h)
  have hF := hid (fun W (h : Rd W 0 1 A len (ws.map iv)) => find_any o x A len cap ws W hlen h)
  have hb0 := below_alloc1 w (.cells #[.int .i64 o, .slice A len cap] 24)
  have hR1 := hid (hR.below hb0)
  have hcell : ∀ j, j < 2 → (w.alloc (.cells #[.int .i64 o, .slice A len cap] 24)).cell? ⟨w.heap.size, j, none⟩ = (#[Value.int .i64 o, .slice A len cap] : Array Value)[j]? := fun j _ => (Blk.new w 24 _).cell j
  have c0 := hcell 0 (by omega)
  have c1 := hcell 1 (by omega)
  have hHB := hid hb0
  unfold aheadL
  clear hR hcell hb0
  generalize hE : askedE o ws x = E at *
  generalize hZ : fnd (allL o ws) x = Z at *
  clear hE hZ
  by_cases he : E = 0
  · subst he
    rw [if_neg (by simp)]
    by_cases hz : Z < 0
    · rw [if_pos hz]
      go_enter Try.func11, Try.ntmps11
      go_wp2_with (first
        | ((with_reducible refine (hC.out _ hR1.out).mono ?_); rintro e w1 ⟨rfl, hb1⟩; have k0 := (hb1.cell (p := ⟨w.heap.size, 0, none⟩) (by simp)).trans c0; have k1 := (hb1.cell (p := ⟨w.heap.size, 1, none⟩) (by simp)).trans c1)
        | ((with_reducible refine (hF.out _ (hR1.out.below hb1)).mono ?_); rintro e w2 ⟨rfl, hb2⟩))
      go_ret2
      exact ⟨rfl, below_al (hb1.trans (hb2.mono hb1.size))⟩
    · rw [if_neg hz]
      have hz' : 0 ≤ Z := by omega
      go_enter Try.func11, Try.ntmps11
      go_wp2_with (first
        | ((with_reducible refine (hC.out _ hR1.out).mono ?_); rintro e w1 ⟨rfl, hb1⟩; have k0 := (hb1.cell (p := ⟨w.heap.size, 0, none⟩) (by simp)).trans c0; have k1 := (hb1.cell (p := ⟨w.heap.size, 1, none⟩) (by simp)).trans c1)
        | ((with_reducible refine (hF.out _ (hR1.out.below hb1)).mono ?_); rintro e w2 ⟨rfl, hb2⟩))
      go_ret2
      exact ⟨rfl, below_al (hb1.trans (hb2.mono hb1.size))⟩
  · rw [if_pos he]
    have he' : (E != 0) = true := by simpa [bne] using he
    go_enter Try.func11, Try.ntmps11
    go_wp2_with ((with_reducible refine (hC.out _ hR1.out).mono ?_); rintro e w1 ⟨rfl, hb1⟩)
    go_ret2
    exact ⟨rfl, below_al hb1⟩

/-- A slice of ints of the call's own. -/
def GivesI (w : World) (xs : List Int) (e : Ending) (w' : World) : Prop := ∃ D c, e = .returned (.slice D xs.length c) ∧ Own w' w.heap.size 3 1 D xs.length c (xs.map iv) ∧ Below w.heap.size w w'
theorem gives_i {w w' : World} {xs : List Int} {D : Option Addr} {n c : Nat} (ho : Own w' w.heap.size 3 1 D n c (xs.map iv)) (hb : Below w.heap.size w w') : GivesI w xs (.returned (.slice D n c)) w' := by
  have hn : xs.length = n := by simpa using ho.len
  subst hn
  exact ⟨_, _, rfl, ho, hb⟩
theorem int_info : (Try.prog.info? 3).map (fun i => (i.zero, i.size, i.bytes)) = some (some (.int .i64 0), 1, 8) := by kernel_rfl

set_option maxHeartbeats 1000000 in
theorem clone_any (A : Option Addr) (n c : Nat) (xs : List Int) (w : World) (hr : Rd w 0 1 A n (xs.map iv)) (hn : n ≤ 1000) :
    Calls Try.prog 22 #[.slice A n c] w (GivesI w xs) := by
  obtain ⟨i0, hi0, hz0, hz1, hz2⟩ := info_parts int_info
  have hl : xs.length = n := by simpa using hr.1
  have hE := fun W => Lib.run_eql_slice_nil (P := Try.prog) W 22 3 A n c 0 0 Try.underlying22
  cases A with
  | none =>
    obtain rfl : n = 0 := by
      rcases Nat.eq_zero_or_pos n with h | h
      · exact h
      · obtain ⟨b, o, e, _⟩ := hr.2 (by omega)
        cases e
    obtain rfl : xs = [] := List.eq_nil_of_length_eq_zero hl
    go_enter Try.func22, Try.ntmps22
    go_wp2
    go_ret
    exact gives_i (xs := []) (Own.nil _ _ _ _ _) (Below.refl _ _)
  | some a =>
    go_enter Try.func22, Try.ntmps22
    go_wp2_with (at_builtin; refine wpList_app _ rfl _ _ _ rfl w.heap.size 3 i0 _ 1 8 Try.underlying22 hi0 hz0 hz1 hz2 rfl (by omega) _ 0 0 [] rfl (Own.nil _ _ _ _ _) (some a) n c 0 (xs.map iv) rfl (hr.alloc _) (iv_one xs) (by simp only [maxLen]; omega) (by omega) (by simp) ?_; intro D' c' w1 hown hg hat)
    go_ret
    simp only [Nat.zero_add, List.nil_append] at hown
    exact gives_i hown (((Below.refl _ _).alloc (Nat.le_refl _) _).grown hg (by simp) (by simp [rowOf]))

/-- A lock whose waiting tasks are the call's own. -/
def GivesL (w : World) (o : Int) (xs : List Int) (e : Ending) (w' : World) : Prop := ∃ D c, e = .returned (.agg #[.int .i64 o, .slice D xs.length c]) ∧ Own w' w.heap.size 3 1 D xs.length c (xs.map iv) ∧ Below w.heap.size w w'
theorem Own.setFar {w : World} {lo sz n c : Nat} {e : TypeId} {A : Option Addr} {xs : List Value} (h : Own w lo e sz A n c xs) {b i : Nat} (hb : b < lo) (u : Value) : Own (w.setCell ⟨b, i, none⟩ u) lo e sz A n c xs := by
  rcases h with h | ⟨g, cur, rfl, hlo, hg, r⟩
  · exact .inl h
  · exact .inr ⟨g, cur, rfl, hlo, (Below.heap_setCell w ⟨b, i, none⟩ u g (by show g ≠ b; omega)).trans hg, r⟩

theorem two_facts {w : World} {g : Nat} {t : TypeId} {a b : Value} (h : Blk w g t #[a, b]) : w.cell? ⟨g, 0, none⟩ = some a ∧ w.cell? ⟨g, 1, none⟩ = some b ∧ w.frozen? ⟨g, 0, none⟩ = false ∧ w.frozen? ⟨g, 1, none⟩ = false :=
  ⟨h.cellv rfl, h.cellv rfl, h.frozen 0, h.frozen 1⟩

set_option maxHeartbeats 1000000 in
theorem twin_any (o : Int) (A : Option Addr) (len cap : Nat) (xs : List Int) (w : World) (hlen : len ≤ 1000) (hR : Rd w 0 1 A len (xs.map iv)) :
    Calls Try.prog 19 #[.agg #[.int .i64 o, .slice A len cap]] w (GivesL w o xs) := by
  have hC := hid (fun W (h : Rd W 0 1 A len (xs.map iv)) => clone_any A len cap xs W h hlen)
  have b1 := (Blk.new w 24 #[.int .i64 o, .slice A len cap]).alloc (.cells #[.int .i64 0, .slice none 0 0] 24)
  have b2 := Blk.new (w.alloc (.cells #[.int .i64 o, .slice A len cap] 24)) 24 #[.int .i64 0, .slice none 0 0]
  have hR1 := hid ((hR.below (below_alloc1 w (.cells #[.int .i64 o, .slice A len cap] 24))).alloc (.cells #[.int .i64 0, .slice none 0 0] 24))
  have H1 := hid b1
  have H2 := hid b2
  clear b1 b2
  go_enter Try.func19, Try.ntmps19
  go_wp2_with ((with_reducible refine (hC.out _ hR1.out).mono ?_); rintro e w2 ⟨D, c, rfl, hO, hb2⟩; obtain ⟨a0, a1, a2, a3⟩ := two_facts (H1.out.belowS hb2); obtain ⟨c0, c1, c2, c3⟩ := two_facts (H2.out.belowS hb2); simp only [World.size_alloc] at c0 c1 c2 c3)
  have hO3 := (((hO.setFar (b := w.heap.size) (i := 1) (by simp; omega) (.slice D xs.length c)).setFar (b := w.heap.size + 1) (i := 0) (by simp) (.int .i64 o)).setFar (b := w.heap.size + 1) (i := 1) (by simp) (.slice D xs.length c)).low (lo' := w.heap.size) (by simp; omega)
  have hB3 := (((below_al (below_al hb2)).setCell (p := ⟨w.heap.size, 1, none⟩) (Nat.le_refl _) (.slice D xs.length c)).setCell (p := ⟨w.heap.size + 1, 0, none⟩) (by simp) (.int .i64 o)).setCell (p := ⟨w.heap.size + 1, 1, none⟩) (by simp) (.slice D xs.length c)
  exact bodyPost_ret (v := .agg #[.int .i64 o, .slice D xs.length c]) (by simp [results, Try.f19, go_sem, c0, c1]) rfl ⟨D, c, rfl, hO3, hB3⟩

set_option maxHeartbeats 2000000 in
theorem equal_any (A B : Option Addr) (n m c d : Nat) (xs ys : List Int) (w : World) (ha : Rd w 0 1 A n (xs.map iv)) (hb : Rd w 0 1 B m (ys.map iv)) (hn : n ≤ 1000) (hm : m ≤ 1000) :
    Calls Try.prog 33 #[.slice A n c, .slice B m d] w fun e w' => e = .returned (.bool (decide (xs = ys))) ∧ Below w.heap.size w w' := by
  have hxl : xs.length = n := by simpa using ha.1
  have hyl : ys.length = m := by simpa using hb.1
  by_cases hnm : n = m
  · subst hnm
    have hne : ((n : Int) != (n : Int)) = false := by simp
    have HX := hid hxl
    have HY := hid hyl
    clear hxl hyl
    go_enter Try.func33, Try.ntmps33
    go_wp2
    go_loopw [13] (fun i wr => ∃ k : Nat, k ≤ n ∧ i = .int .i64 k ∧ (∀ j, j < k → xs[j]? = ys[j]?) ∧ Below w.heap.size w wr) (fun i _ => n - (intOf i).toNat)
    case atStart => exact ⟨0, Nat.zero_le _, rfl, fun j hj => absurd hj (Nat.not_lt_zero _), Below.refl _ _⟩
    case round =>
      obtain ⟨k, hk, rfl, hgood, hbr⟩ := hrel
      have HG := hid hgood
      clear hgood
      by_cases hlt : k < n
      · obtain ⟨b1, o1, rfl, _, c1⟩ := (ha.below hbr).int hlt
        obtain ⟨b2, o2, rfl, _, c2⟩ := (hb.below hbr).int hlt
        have hti : (k : Int) < (n : Int) := by omega
        have htz : (0 : Int) ≤ (k : Int) := by omega
        have hnz : (n : Int) ≤ 1000 := by omega
        by_cases hxy : xs[k]?.getD 0 = ys[k]?.getD 0
        · have hq : (xs[k]?.getD 0 != ys[k]?.getD 0) = false := by simp [bne, hxy]
          have hat : ∀ j, j < k + 1 → xs[j]? = ys[j]? := fun j hj => by
            rcases Nat.lt_succ_iff_lt_or_eq.1 hj with h | rfl
            · exact HG.out j h
            · have h1 : j < xs.length := by have := HX.out; omega
              have h2 : j < ys.length := by have := HY.out; omega
              rw [List.getElem?_eq_getElem h1, List.getElem?_eq_getElem h2] at hxy ⊢
              simpa using hxy
          have HAT := hid hat
          clear hxy hat
          generalize xs[k]?.getD 0 = x at *
          generalize ys[k]?.getD 0 = y at *
          go_wp2
          go_quiet (fail)
          go_wp2
          exact ⟨⟨k + 1, by omega, by go_num, HAT.out, below_drew hbr _⟩, by simp [intOf]; omega⟩
        · have hq : (xs[k]?.getD 0 != ys[k]?.getD 0) = true := by simpa [bne] using hxy
          have hno : xs ≠ ys := fun e => hxy (by rw [e])
          have HNO := hid hno
          clear hxy hno
          generalize xs[k]?.getD 0 = x at *
          generalize ys[k]?.getD 0 = y at *
          go_wp2
          go_quiet (fail)
          go_wp2
          go_ret
          exact ⟨ret_b (decide_eq_false HNO.out), below_drew hbr _⟩
      · obtain rfl : k = n := by omega
        have hti : ¬ (k : Int) < (k : Int) := by omega
        have hyes : xs = ys := List.ext_getElem? fun j => by
          rcases Nat.lt_or_ge j k with h | h
          · exact HG.out j h
          · rw [List.getElem?_eq_none (by have := HX.out; omega), List.getElem?_eq_none (by have := HY.out; omega)]
        have HYES := hid hyes
        clear hyes
        go_wp2
        go_ret
        exact ⟨ret_b (decide_eq_true HYES.out), hbr⟩
  · have hne : ((n : Int) != (m : Int)) = true := by rw [bne_iff_ne]; omega
    rw [decide_eq_false (fun h => hnm (by rw [← hxl, ← hyl, h]))]
    go_enter Try.func33, Try.ntmps33
    go_wp2
    go_ret
    exact ⟨rfl, Below.refl _ _⟩

set_option maxHeartbeats 1000000 in
theorem same_any (o p : Int) (A B : Option Addr) (n m c d : Nat) (xs ys : List Int) (w : World) (ha : Rd w 0 1 A n (xs.map iv)) (hb : Rd w 0 1 B m (ys.map iv)) (hn : n ≤ 1000) (hm : m ≤ 1000) :
    Calls Try.prog 18 #[.agg #[.int .i64 o, .slice A n c], .agg #[.int .i64 p, .slice B m d]] w fun e w' => e = .returned (.bool (decide (o = p ∧ xs = ys))) ∧ Below w.heap.size w w' := by
  have hbb := (below_alloc1 w (.cells #[.int .i64 o, .slice A n c] 24)).alloc (by simp) (.cells #[.int .i64 p, .slice B m d] 24)
  have hE := hid (equal_any A B n m c d xs ys _ (ha.below hbb) (hb.below hbb) hn hm)
  by_cases hop : o = p
  · have hq : (o == p) = true := by simpa using hop
    have HP := hid hop
    have HD : Hid (decide (o = p ∧ xs = ys) = decide (xs = ys)) := hid (by simp [hop])
    generalize decide (xs = ys) = q at *
    clear hop
    cases q
    all_goals
      go_enter Try.func18, Try.ntmps18
      go_wp2_with ((with_reducible refine (hE.out).mono ?_); rintro e w2 ⟨rfl, hb2⟩)
      go_ret
      exact ⟨ret_b HD.out, below_al (below_al hb2)⟩
  · have hq : (o == p) = false := by simpa using hop
    have HD : Hid (decide (o = p ∧ xs = ys) = false) := hid (by simp [hop])
    clear hop
    go_enter Try.func18, Try.ntmps18
    go_wp2
    go_ret
    exact ⟨ret_b HD.out, hbb⟩
end Go.Proofs.Ytopicgodflhjcaa
