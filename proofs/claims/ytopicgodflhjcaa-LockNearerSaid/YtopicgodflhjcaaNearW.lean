/-
  The walk of the law LockNearer: at any lock and two tasks it returns true and writes nothing that was there.
-/
import Derived.Test.YtopicgodflhjcaaLockF
import Derived.Deep.DeepCutAuto
namespace Go.Proofs.Ytopicgodflhjcaa
open Go.RowKit Go.Shelf

section
variable (o x y : Int) (A : Option Addr) (n c : Nat) (ws : List Int) (w : World)
set_option maxRecDepth 100000 in
set_option maxHeartbeats 1000000 in
theorem near_big (h : 30 < n) :
    Calls Try.prog 4 #[.agg #[.int .i64 o, .slice A n c], .int .i64 x, .int .i64 y] w fun e w' => e = .returned (.bool true) ∧ Below w.heap.size w w' := by
  have H1 := hid (Blk.new w 24 #[.int .i64 o, .slice A n c])
  have hn : (30 : Int) < (n : Int) := by omega
  go_enter Try.func4, Try.ntmps4
  go_wp2_with ((with_reducible refine (alive_any _).mono ?_); rintro e w1 ⟨rfl, hb1⟩; obtain ⟨a0, a1, a2, a3⟩ := two_facts (H1.out.belowS hb1))
  go_ret
  exact ⟨rfl, below_al hb1⟩
set_option maxRecDepth 100000 in
set_option maxHeartbeats 1000000 in
theorem near_bad (h : n ≤ 30) (hR : Rd w 0 1 A n (ws.map iv)) (hm : mayL o ws = false) :
    Calls Try.prog 4 #[.agg #[.int .i64 o, .slice A n c], .int .i64 x, .int .i64 y] w fun e w' => e = .returned (.bool true) ∧ Below w.heap.size w w' := by
  have H1 := hid (Blk.new w 24 #[.int .i64 o, .slice A n c])
  have hn : (n : Int) ≤ 30 := by omega
  have hR1 := hid (hR.below (below_alloc1 w (.cells #[.int .i64 o, .slice A n c] 24)))
  have hE : Hid (errOf (mayL o ws) = 8) := hid (by rw [hm]; rfl)
  clear hR hm
  go_enter Try.func4, Try.ntmps4
  go_wp2_with (first
    | ((with_reducible refine (alive_any _).mono ?_); rintro e w1 ⟨rfl, hb1⟩; obtain ⟨a0, a1, a2, a3⟩ := two_facts (H1.out.belowS hb1))
    | ((with_reducible refine (check_to o A n c ws _ (by omega) (hR1.out.below hb1) 8 hE.out).mono ?_); rintro e w2 ⟨rfl, hb2⟩))
  go_ret
  exact ⟨rfl, below_al (below_chain hb1 hb2)⟩
set_option maxRecDepth 100000 in
set_option maxHeartbeats 4000000 in
theorem near_good (h : n ≤ 30) (hR : Rd w 0 1 A n (ws.map iv)) (hm : mayL o ws = true) :
    Calls Try.prog 4 #[.agg #[.int .i64 o, .slice A n c], .int .i64 x, .int .i64 y] w fun e w' => e = .returned (.bool true) ∧ Below w.heap.size w w' := by
  have H1 := hid (Blk.new w 24 #[.int .i64 o, .slice A n c])
  have hn : (n : Int) ≤ 30 := by omega
  have hl : ws.length = n := by simpa using hR.1
  have hR1 := hid (hR.below (below_alloc1 w (.cells #[.int .i64 o, .slice A n c] 24)))
  have hE : Hid (errOf (mayL o ws) = 0) := hid (by rw [hm]; rfl)
  obtain ⟨p, hp⟩ : ∃ p, (aheadL o ws x).1 = p := ⟨_, rfl⟩
  obtain ⟨e, he⟩ : ∃ e, (aheadL o ws x).2 = e := ⟨_, rfl⟩
  have hA : Hid (aheadL o ws x = (p, e)) := hid (by rw [← hp, ← he])
  obtain ⟨⟨o', ws', has, f⟩, hT⟩ : ∃ T, takeL o ws y = T := ⟨_, rfl⟩
  have HT := hid hT
  have HM := hid hm
  have HL := hid hl
  have HR := hid hR
  clear hR hm hp he hT hl
  go_enter Try.func4, Try.ntmps4
  go_upto_if 49 with (first
    | ((with_reducible refine (alive_any _).mono ?_); rintro e w1 ⟨rfl, hb1⟩; obtain ⟨a0, a1, a2, a3⟩ := two_facts (H1.out.belowS hb1))
    | ((with_reducible refine (check_to o A n c ws _ (by omega) (hR1.out.below hb1) 0 hE.out).mono ?_); rintro e w2 ⟨rfl, hb2⟩; obtain ⟨b0, b1, b2, b3⟩ := two_facts ((H1.out.belowS hb1).belowS hb2))
    | ((with_reducible refine (ahead_to o x A n c ws _ (by omega) ((hR1.out.below hb1).below hb2) p e hA.out).mono ?_); rintro e w3 ⟨rfl, hb3⟩; obtain ⟨c0, c1, c2, c3⟩ := two_facts (((H1.out.belowS hb1).belowS hb2).belowS hb3))
    | ((with_reducible refine (take_to o y A n c ws _ (by omega) (((hR1.out.below hb1).below hb2).below hb3) (o', ws', has, f) HT.out).mono ?_); rintro e w4 ⟨D, m, k, rfl, hF, hb4⟩; have B4 := hid ((((H1.out.belowS hb1).belowS hb2).belowS hb3).belowS hb4)))
  have hv := below_alloc1 w4 (.cells #[.int .i64 o', .slice D m k] 24)
  have B5 := B4.out.belowS hv
  have T5 := Blk.new w4 24 #[.int .i64 o', .slice D m k]
  have hF5 := hF.below hv
  have hB5 := below_chain (below_al (below_chain (below_chain (below_chain hb1 hb2) hb3) hb4)) hv
  have z4 := hF5.len
  have HZ : Hid (w.heap.size < w4.heap.size) := hid B4.out.lt
  clear a0 a1 a2 a3 b0 b1 b2 b3 c0 c1 c2 c3 hb1 hb2 hb3 hb4 hF hv B4
  generalize w4.alloc (.cells #[.int .i64 o', .slice D m k] 24) = v5 at *
  generalize w4.heap.size = g at *
  have HB5 := hid B5
  have HT5 := hid T5
  have HF5 := hid hF5
  have HBB := hid hB5
  have Z4 := hid z4
  clear B5 T5 hF5 hB5 z4 hn
  go_cut [] (fun wx => Blk wx w.heap.size 24 #[.int .i64 o, .slice A n c] ∧ Below w.heap.size w wx)
  case first =>
    by_cases hf : f = 0
    · subst hf
      have law := take_law (y := y) HM.out (by rw [HT.out])
      have hah := fun hn => take_ahead (y := y) (n := x) HM.out (by rw [HT.out]) hn
      rw [HT.out] at law hah
      simp only at law hah
      obtain ⟨_, _, _, l4, l5, l6, l7, l8⟩ := law
      have hm' : m ≤ 1000 := by have := Z4.out; have := HL.out; omega
      have hE' : Hid (errOf (mayL o' ws') = 0) := hid (by rw [l4]; rfl)
      obtain ⟨p', hp'⟩ : ∃ p, (aheadL o' ws' x).1 = p := ⟨_, rfl⟩
      obtain ⟨e', he'⟩ : ∃ e, (aheadL o' ws' x).2 = e := ⟨_, rfl⟩
      have hA' : Hid (aheadL o' ws' x = (p', e')) := hid (by rw [← hp', ← he'])
      clear hp' he' l4 l8
      obtain ⟨t0, t1, t2, t3⟩ := two_facts HT5.out
      by_cases ho : o = 0
      · subst ho
        obtain rfl : has = true := l5
        have q1 : (o' == y) = true := l6.symm
        clear l6 l7
        by_cases hxy : x = y
        · have hx : (x != y) = false := by simp [bne, hxy]
          clear hah hxy
          go_wp2_with (first
            | ((with_reducible refine (ahead_to o' x D m k ws' _ hm' HF5.out.rd0 p' e' hA'.out).mono ?_); rintro e w6 ⟨rfl, hb6⟩; obtain ⟨d0, d1, d2, d3⟩ := two_facts (HT5.out.belowS hb6); obtain ⟨e0, e1, e2, e3⟩ := two_facts (HB5.out.belowS hb6))
            | ((with_reducible refine (check_to o' D m k ws' _ hm' (HF5.out.below hb6).rd0 0 hE'.out).mono ?_); rintro e w7 ⟨rfl, hb7⟩))
          go_meet
          exact ⟨(HB5.out.belowS hb6).belowS hb7, below_chain (below_chain HBB.out hb6) hb7⟩
        · have hx : (x != y) = true := by simpa [bne] using hxy
          have hpe := hah hxy
          rw [hA.out, hA'.out] at hpe
          obtain ⟨rfl, rfl⟩ := Prod.mk.inj hpe
          clear hah hxy hpe
          go_wp2_with (first
            | ((with_reducible refine (ahead_to o' x D m k ws' _ hm' HF5.out.rd0 p' e' hA'.out).mono ?_); rintro e w6 ⟨rfl, hb6⟩; obtain ⟨d0, d1, d2, d3⟩ := two_facts (HT5.out.belowS hb6); obtain ⟨e0, e1, e2, e3⟩ := two_facts (HB5.out.belowS hb6))
            | ((with_reducible refine (check_to o' D m k ws' _ hm' (HF5.out.below hb6).rd0 0 hE'.out).mono ?_); rintro e w7 ⟨rfl, hb7⟩))
          go_meet
          exact ⟨(HB5.out.belowS hb6).belowS hb7, below_chain (below_chain HBB.out hb6) hb7⟩
      · have ho' : (o == 0) = false := by simpa using ho
        rw [ho'] at l5
        obtain rfl : has = false := l5
        obtain rfl : o' = o := l7 rfl
        have q1 : (o' == y) = false := l6.symm
        clear l6 l7 ho
        by_cases hxy : x = y
        · have hx : (x != y) = false := by simp [bne, hxy]
          clear hah hxy
          go_wp2_with (first
            | ((with_reducible refine (ahead_to o' x D m k ws' _ hm' HF5.out.rd0 p' e' hA'.out).mono ?_); rintro e w6 ⟨rfl, hb6⟩; obtain ⟨d0, d1, d2, d3⟩ := two_facts (HT5.out.belowS hb6); obtain ⟨e0, e1, e2, e3⟩ := two_facts (HB5.out.belowS hb6))
            | ((with_reducible refine (check_to o' D m k ws' _ hm' (HF5.out.below hb6).rd0 0 hE'.out).mono ?_); rintro e w7 ⟨rfl, hb7⟩))
          go_meet
          exact ⟨(HB5.out.belowS hb6).belowS hb7, below_chain (below_chain HBB.out hb6) hb7⟩
        · have hx : (x != y) = true := by simpa [bne] using hxy
          have hpe := hah hxy
          rw [hA.out, hA'.out] at hpe
          obtain ⟨rfl, rfl⟩ := Prod.mk.inj hpe
          clear hah hxy hpe
          go_wp2_with (first
            | ((with_reducible refine (ahead_to o' x D m k ws' _ hm' HF5.out.rd0 p' e' hA'.out).mono ?_); rintro e w6 ⟨rfl, hb6⟩; obtain ⟨d0, d1, d2, d3⟩ := two_facts (HT5.out.belowS hb6); obtain ⟨e0, e1, e2, e3⟩ := two_facts (HB5.out.belowS hb6))
            | ((with_reducible refine (check_to o' D m k ws' _ hm' (HF5.out.below hb6).rd0 0 hE'.out).mono ?_); rintro e w7 ⟨rfl, hb7⟩))
          go_meet
          exact ⟨(HB5.out.belowS hb6).belowS hb7, below_chain (below_chain HBB.out hb6) hb7⟩
    · have hf' : (f == 0) = false := by simpa using hf
      clear hf
      go_wp2
      go_meet
      exact ⟨HB5.out, HBB.out⟩
  case rest =>
    obtain ⟨BX, hBX⟩ := hcut
    obtain ⟨b0, b1, b2, b3⟩ := two_facts BX
    have hRX := hid (HR.out.below hBX)
    have HBX := hid BX
    have hBXX := hid hBX
    clear BX hBX HB5 HT5 HF5 HBB Z4 HZ HT hR1 H1 HR
    by_cases ho : o = 0
    · subst ho
      have hfr := hid (free_none HM.out rfl)
      go_wp2_with ((with_reducible refine (free_to 0 0 A n c ws _ (by omega) hRX.out (0, [], 0, 2) hfr.out).mono ?_); rintro e w6 ⟨D6, m6, k6, rfl, hF6, hb6⟩; obtain ⟨e0, e1, e2, e3⟩ := two_facts (HBX.out.belowS hb6); have f0 := ((HBX.out.belowS hb6).alloc (.cells #[.int .i64 0, .slice D6 m6 k6] 24)).cellv (i := 0) (v := .int .i64 0) rfl)
      go_ret
      exact ⟨rfl, (below_chain hBXX.out hb6).alloc (by have := hBXX.out.size; have := hb6.size; omega) _⟩
    · have ho' : (o == 0) = false := by simpa using ho
      obtain ⟨g1, g2, g3⟩ := free_law HM.out ho
      have hfr := hid g1
      have hE' : Hid (errOf (mayL (ws.headD 0) ws.tail) = 0) := hid (by rw [g3]; rfl)
      obtain ⟨r, hr⟩ : ∃ r, (aheadL (ws.headD 0) ws.tail x).1 = r := ⟨_, rfl⟩
      obtain ⟨i, hi⟩ : ∃ i, (aheadL (ws.headD 0) ws.tail x).2 = i := ⟨_, rfl⟩
      have hA' : Hid (aheadL (ws.headD 0) ws.tail x = (r, i)) := hid (by rw [← hr, ← hi])
      have hnear := nearer HM.out ho x
      have hm6 : ws.tail.length ≤ 1000 := by have := HL.out; simp; omega
      have hm6' := hid hm6
      rw [hA.out, hA'.out] at hnear
      simp only at hnear
      clear hr hi g1 g2 g3 ho hm6
      generalize ws.headD 0 = hd at *
      generalize ws.tail = tl at *
      rcases hnear with ⟨rfl, rfl⟩ | ⟨rfl, rfl, rfl⟩ | ⟨rfl, hp1, rfl, rfl, hp2, hp5⟩
      · go_upto_if 110 with ((with_reducible refine (free_to o o A n c ws _ (by omega) hRX.out (hd, tl, hd, 0) hfr.out).mono ?_); rintro e w6 ⟨D6, m6, k6, rfl, hF6, hb6⟩; obtain ⟨e0, e1, e2, e3⟩ := two_facts (HBX.out.belowS hb6); have f0 := ((HBX.out.belowS hb6).alloc (.cells #[.int .i64 hd, .slice D6 m6 k6] 24)).cellv (i := 0) (v := .int .i64 o) rfl)
        have hv := below_alloc1 w6 (.cells #[.int .i64 hd, .slice D6 m6 k6] 24)
        have T7 := hid (Blk.new w6 24 #[.int .i64 hd, .slice D6 m6 k6])
        have hF7 := hid (hF6.below hv)
        have hB7 := hid (below_chain (below_chain hBXX.out hb6) hv)
        have hm7 : Hid (m6 ≤ 1000) := hid (by have := hF6.len; have := hm6'.out; omega)
        obtain ⟨t0, t1, t2, t3⟩ := two_facts T7.out
        clear hF6 hb6 hv e0 e1 e2 e3 f0
        generalize w6.alloc (.cells #[.int .i64 hd, .slice D6 m6 k6] 24) = v7 at *
        generalize w6.heap.size = g7 at *
        go_wp2_with (first
          | ((with_reducible refine (ahead_to hd x D6 m6 k6 tl _ hm7.out hF7.out.rd0 r 2 hA'.out).mono ?_); rintro e w8 ⟨rfl, hb8⟩; obtain ⟨d0, d1, d2, d3⟩ := two_facts (T7.out.belowS hb8))
          | ((with_reducible refine (check_to hd D6 m6 k6 tl _ hm7.out (hF7.out.below hb8).rd0 0 hE'.out).mono ?_); rintro e w9 ⟨rfl, hb9⟩))
        go_ret
        exact ⟨rfl, below_chain (below_chain hB7.out hb8) hb9⟩
      · go_upto_if 110 with ((with_reducible refine (free_to o o A n c ws _ (by omega) hRX.out (hd, tl, hd, 0) hfr.out).mono ?_); rintro e w6 ⟨D6, m6, k6, rfl, hF6, hb6⟩; obtain ⟨e0, e1, e2, e3⟩ := two_facts (HBX.out.belowS hb6); have f0 := ((HBX.out.belowS hb6).alloc (.cells #[.int .i64 hd, .slice D6 m6 k6] 24)).cellv (i := 0) (v := .int .i64 o) rfl)
        have hv := below_alloc1 w6 (.cells #[.int .i64 hd, .slice D6 m6 k6] 24)
        have T7 := hid (Blk.new w6 24 #[.int .i64 hd, .slice D6 m6 k6])
        have hF7 := hid (hF6.below hv)
        have hB7 := hid (below_chain (below_chain hBXX.out hb6) hv)
        have hm7 : Hid (m6 ≤ 1000) := hid (by have := hF6.len; have := hm6'.out; omega)
        obtain ⟨t0, t1, t2, t3⟩ := two_facts T7.out
        clear hF6 hb6 hv e0 e1 e2 e3 f0
        generalize w6.alloc (.cells #[.int .i64 hd, .slice D6 m6 k6] 24) = v7 at *
        generalize w6.heap.size = g7 at *
        go_wp2_with (first
          | ((with_reducible refine (ahead_to hd x D6 m6 k6 tl _ hm7.out hF7.out.rd0 r 2 hA'.out).mono ?_); rintro e w8 ⟨rfl, hb8⟩; obtain ⟨d0, d1, d2, d3⟩ := two_facts (T7.out.belowS hb8))
          | ((with_reducible refine (check_to hd D6 m6 k6 tl _ hm7.out (hF7.out.below hb8).rd0 0 hE'.out).mono ?_); rintro e w9 ⟨rfl, hb9⟩))
        go_ret
        exact ⟨rfl, below_chain (below_chain hB7.out hb8) hb9⟩
      · by_cases h1 : p = 1
        · obtain rfl := h1
          obtain rfl : hd = x := hp2 rfl
          rw [show (1 : Int) - 1 = 0 from rfl] at hA'
          clear hp1 hp2 hp5
          go_upto_if 110 with ((with_reducible refine (free_to o o A n c ws _ (by omega) hRX.out (hd, tl, hd, 0) hfr.out).mono ?_); rintro e w6 ⟨D6, m6, k6, rfl, hF6, hb6⟩; obtain ⟨e0, e1, e2, e3⟩ := two_facts (HBX.out.belowS hb6); have f0 := ((HBX.out.belowS hb6).alloc (.cells #[.int .i64 hd, .slice D6 m6 k6] 24)).cellv (i := 0) (v := .int .i64 o) rfl)
          have hv := below_alloc1 w6 (.cells #[.int .i64 hd, .slice D6 m6 k6] 24)
          have T7 := hid (Blk.new w6 24 #[.int .i64 hd, .slice D6 m6 k6])
          have hF7 := hid (hF6.below hv)
          have hB7 := hid (below_chain (below_chain hBXX.out hb6) hv)
          have hm7 : Hid (m6 ≤ 1000) := hid (by have := hF6.len; have := hm6'.out; omega)
          obtain ⟨t0, t1, t2, t3⟩ := two_facts T7.out
          clear hF6 hb6 hv e0 e1 e2 e3 f0
          generalize w6.alloc (.cells #[.int .i64 hd, .slice D6 m6 k6] 24) = v7 at *
          generalize w6.heap.size = g7 at *
          go_wp2_with (first
            | ((with_reducible refine (ahead_to hd hd D6 m6 k6 tl _ hm7.out hF7.out.rd0 _ 0 hA'.out).mono ?_); rintro e w8 ⟨rfl, hb8⟩; obtain ⟨d0, d1, d2, d3⟩ := two_facts (T7.out.belowS hb8))
            | ((with_reducible refine (check_to hd D6 m6 k6 tl _ hm7.out (hF7.out.below hb8).rd0 0 hE'.out).mono ?_); rintro e w9 ⟨rfl, hb9⟩))
          go_ret
          exact ⟨rfl, below_chain (below_chain hB7.out hb8) hb9⟩
        · have hp3 : 1 < p := by omega
          have hp6 : p ≤ 30 := by have := HL.out; omega
          clear hp1 hp2 h1 hp5
          go_upto_if 110 with ((with_reducible refine (free_to o o A n c ws _ (by omega) hRX.out (hd, tl, hd, 0) hfr.out).mono ?_); rintro e w6 ⟨D6, m6, k6, rfl, hF6, hb6⟩; obtain ⟨e0, e1, e2, e3⟩ := two_facts (HBX.out.belowS hb6); have f0 := ((HBX.out.belowS hb6).alloc (.cells #[.int .i64 hd, .slice D6 m6 k6] 24)).cellv (i := 0) (v := .int .i64 o) rfl)
          have hv := below_alloc1 w6 (.cells #[.int .i64 hd, .slice D6 m6 k6] 24)
          have T7 := hid (Blk.new w6 24 #[.int .i64 hd, .slice D6 m6 k6])
          have hF7 := hid (hF6.below hv)
          have hB7 := hid (below_chain (below_chain hBXX.out hb6) hv)
          have hm7 : Hid (m6 ≤ 1000) := hid (by have := hF6.len; have := hm6'.out; omega)
          obtain ⟨t0, t1, t2, t3⟩ := two_facts T7.out
          clear hF6 hb6 hv e0 e1 e2 e3 f0
          generalize w6.alloc (.cells #[.int .i64 hd, .slice D6 m6 k6] 24) = v7 at *
          generalize w6.heap.size = g7 at *
          go_wp2_with (first
            | ((with_reducible refine (ahead_to hd x D6 m6 k6 tl _ hm7.out hF7.out.rd0 _ 0 hA'.out).mono ?_); rintro e w8 ⟨rfl, hb8⟩; obtain ⟨d0, d1, d2, d3⟩ := two_facts (T7.out.belowS hb8))
            | ((with_reducible refine (check_to hd D6 m6 k6 tl _ hm7.out (hF7.out.below hb8).rd0 0 hE'.out).mono ?_); rintro e w9 ⟨rfl, hb9⟩))
          go_ret
          exact ⟨rfl, below_chain (below_chain hB7.out hb8) hb9⟩
end
theorem lockNearer_law (o : Int) (A : Option Addr) (n c : Nat) (ws : List Int) {w : World} (hR : Rd w 0 1 A n (ws.map iv)) (x : Int) (_ : (Lit.int .i64 x).wf = true) (y : Int) (_ : (Lit.int .i64 y).wf = true) :
    Calls Try.prog 4 #[.agg #[.int .i64 o, .slice A n c], .int .i64 x, .int .i64 y] w fun e w' => e = .returned (.bool true) ∧ Below w.heap.size w w' := by
  by_cases h : 30 < n
  · exact near_big o x y A n c w h
  · cases hm : mayL o ws with
    | false => exact near_bad o x y A n c ws w (by omega) hR hm
    | true => exact near_good o x y A n c ws w (by omega) hR hm
end Go.Proofs.Ytopicgodflhjcaa
