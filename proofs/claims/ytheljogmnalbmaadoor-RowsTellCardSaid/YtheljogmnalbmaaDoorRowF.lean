/-
  The reference's made and Fits: in plain words; their contracts; that both Fits answer alike. No condition beyond those each theorem names.
-/
import Derived.Test.YtheljogmnalbmaaDoorRowE
namespace Go.Proofs.YtheljogmnalbmaaDoor
open Go.RowKit
set_option linter.unusedSimpArgs false
set_option linter.unusedVariables false

/-- What made gives, at sides from the last on. -/
def madeR (row : List UInt8) : Nat → Nat → List (List UInt8) → List UInt8 × Bool
  | n, _, [] => if n = 1 then (digOf 7 [row], true) else (List.replicate 32 0, false)
  | n, i, s :: l =>
    if n = 1 then (digOf 7 [row], false)
    else if i < frontN n then (digOf 8 [(madeR row (frontN n) i l).1, s], (madeR row (frontN n) i l).2)
    else (digOf 8 [s, (madeR row (n - frontN n) (i - frontN n) l).1], (madeR row (n - frontN n) (i - frontN n) l).2)
theorem madeR_len (row : List UInt8) : ∀ (l : List (List UInt8)) (n i : Nat), (madeR row n i l).1.length = 32
  | [], n, i => by
    unfold madeR
    split
    · exact digOf_len _ _
    · simp
  | s :: l, n, i => by
    unfold madeR
    split
    · exact digOf_len _ _
    · split <;> exact digOf_len _ _
theorem foldK_last : ∀ (a : List Bool) (c : List (List UInt8)) (d : List UInt8) (b : Bool) (s : List UInt8), a.length = c.length → foldK d (a ++ [b]) (c ++ [s]) = fork1 (foldK d a c) b s
  | [], [], d, b, s, _ => rfl
  | [], _ :: _, _, _, _, h => by simp at h
  | _ :: _, [], _, _, _, h => by simp at h
  | x :: a, y :: c, d, b, s, h => by
    show foldK (fork1 d x y) (a ++ [b]) (c ++ [s]) = _
    rw [foldK_last a c _ b s (by simpa using h)]
    rfl
theorem made_fold (row : List UInt8) : ∀ (l : List (List UInt8)) (n i : Nat), 1 ≤ n → i < n →
    ((turnsL n i).length = l.length → madeR row n i l = (foldK (digOf 7 [row]) (turnsL n i).reverse l.reverse, true)) ∧ ((turnsL n i).length ≠ l.length → (madeR row n i l).2 = false)
  | [], n, i, h1, hi => by
    by_cases h : n = 1
    · subst h
      rw [turnsL_one (by omega)]
      refine ⟨fun _ => ?_, fun h => absurd rfl h⟩
      unfold madeR
      rw [if_pos rfl]
      rfl
    · have h2 : 2 ≤ n := by omega
      have hne : (turnsL n i).length ≠ 0 := by
        by_cases hf : frontN n ≤ i
        · rw [turnsL_ge h2 hf]; simp
        · rw [turnsL_lt h2 hf]; simp
      refine ⟨fun h => absurd h hne, fun _ => ?_⟩
      unfold madeR
      rw [if_neg h]
  | s :: l, n, i, h1, hi => by
    by_cases h : n = 1
    · subst h
      rw [turnsL_one (by omega)]
      refine ⟨fun h => by simp at h, fun _ => ?_⟩
      unfold madeR
      rw [if_pos rfl]
    · have h2 : 2 ≤ n := by omega
      have hb := frontN_bounds h2
      by_cases hf : frontN n ≤ i
      · have ih := made_fold row l (n - frontN n) (i - frontN n) (by omega) (by omega)
        rw [turnsL_ge h2 hf]
        unfold madeR
        rw [if_neg h, if_neg (by omega)]
        refine ⟨fun hl => ?_, fun hl => ih.2 (by simpa using hl)⟩
        have hl' : (turnsL (n - frontN n) (i - frontN n)).length = l.length := by simpa using hl
        rw [ih.1 hl', List.reverse_cons, List.reverse_cons, foldK_last _ _ _ _ _ (by simpa using hl')]
        rfl
      · have ih := made_fold row l (frontN n) i (by omega) (by omega)
        rw [turnsL_lt h2 hf]
        unfold madeR
        rw [if_neg h, if_pos (by omega)]
        refine ⟨fun hl => ?_, fun hl => ih.2 (by simpa using hl)⟩
        have hl' : (turnsL (frontN n) i).length = l.length := by simpa using hl
        rw [ih.1 hl', List.reverse_cons, List.reverse_cons, foldK_last _ _ _ _ _ (by simpa using hl')]
        rfl
/-- What the reference's Fits answers. -/
def fitsR (R : List UInt8) (many i : Int) (row : List UInt8) (ds : List (List UInt8)) : Bool :=
  if many > 256 ∨ i < 0 ∨ i ≥ many ∨ 4096 < row.length then false
  else (madeR row many.toNat i.toNat ds.reverse).2 && decide ((madeR row many.toNat i.toNat ds.reverse).1 = R)
theorem fits_same (R : List UInt8) (many i : Int) (row : List UInt8) (ds : List (List UInt8)) : fitsR R many i row ds = fitsT R many i row ds := by
  unfold fitsR fitsT
  by_cases h : many > 256 ∨ i < 0 ∨ i ≥ many ∨ 4096 < row.length
  · rw [if_pos h, if_pos h]
  · rw [if_neg h, if_neg h]
    have hm := made_fold row ds.reverse many.toNat i.toNat (by omega) (by omega)
    rw [List.length_reverse, List.reverse_reverse] at hm
    by_cases hl : (turnsL many.toNat i.toNat).length = ds.length
    · rw [hm.1 hl, if_neg (fun k => k hl), Bool.true_and]
    · rw [hm.2 hl, if_pos hl, Bool.false_and]
/-- Two results: a digest, whether. -/
def GivesDB (w : World) (p : List UInt8 × Bool) (e : Ending) (w' : World) : Prop := e = .returned (.tuple #[.agg (p.1.map bv).toArray, .bool p.2]) ∧ Below w.heap.size w w'
theorem zeroD_built (w : World) : (Instr.build 23 #[]).run Tryd.prog w = .ok (.agg zeroD) w := by kernel_rfl
theorem zeroD_one : ∀ v ∈ zeroD, v.oneCell' = true := oneBv' (List.replicate 32 0)
theorem refOneS_any (A : Option Addr) (n c : Nat) (p : List UInt8) (w : World) (hr : Rd w 0 1 A n (p.map bv)) (hn : n ≤ 5000) : Calls Tryd.prog 37 #[.int .u8 7, .slice A n c] w (GivesD w (digOf 7 [p])) := refOne_any 7 A n c p w hr hn
theorem refTwoS_any (A B : Option Addr) (n c m d : Nat) (p q : List UInt8) (w : World) (hr : Rd w 0 1 A n (p.map bv)) (hq : Rd w 0 1 B m (q.map bv)) (hn : n ≤ 5000) (hm : m ≤ 5000) : Calls Tryd.prog 39 #[.int .u8 8, .slice A n c, .slice B m d] w (GivesD w (digOf 8 [p, q])) := refTwo_any 8 A B n c m d p q w hr hq hn hm

set_option maxRecDepth 100000 in
set_option maxHeartbeats 4000000 in
theorem made_one (i : Int) (A S : Option Addr) (n c m mc : Nat) (row : List UInt8) (b : Bool) (w : World) (hrow : Rd w 0 1 A n (row.map bv)) (hn : n ≤ 5000) (hb : decide (m = 0) = b) :
    Calls Tryd.prog 24 #[.int .i64 1, .int .i64 i, .slice A n c, .slice S m mc] w (GivesDB w (digOf 7 [row], b)) := by
  have HR := hid hrow
  have hO := hid (fun W (h : Rd W 0 1 A n (row.map bv)) => refOneS_any A n c row W h hn)
  have hd7 := digOf_len 7 [row]
  have hs7 := digZ _ hd7
  have hz7 := digS _ hd7
  have ho7 := hid (oneBv' (digOf 7 [row]))
  unfold GivesD at hO
  unfold GivesDB
  generalize hd0 : digOf 7 [row] = d0 at *
  have hmi : ((m : Int) == 0) = b := by rw [← hb, Bool.eq_iff_iff, beq_iff_eq, decide_eq_true_iff]; omega
  clear hd0 hrow hb
  dsimp only
  generalize hDA : (d0.map bv).toArray = DA at *
  go_enter Tryd.func24, Tryd.ntmps24
  go_wp2_with (first
    | (refine wpList_al rfl 23 rfl zeroD (zeroD_run _) ?_; intro w1 hB1 hb1 hy; clear hy)
    | ((with_reducible refine (hO.out _ (HR.out.below hb1)).mono ?_); rintro e w2 ⟨rfl, hb2⟩)
    | (refine wpList_str rfl 23 _ _ rfl w.heap.size DA rfl rfl _ zeroD (hB1.belowS hb2) hs7 zeroD_size ho7.out ?_; intro w3 hB3 hg3 hy; clear hy))
  have hbf := below_set (below_chain hb1 hb2) hg3 (Nat.le_refl _)
  have hres := results_cs (P := Tryd.prog) (fn := Tryd.f24) (p := 8) (t := 9) rfl
  refine bodyPost_ret (hres _ _ w.heap.size _ _ rfl hB3 Tryd.underlying23 rfl hz7) rfl ⟨?_, hbf⟩
  rw [← hmi]
  rfl

set_option maxRecDepth 100000 in
set_option maxHeartbeats 4000000 in
theorem made_none (i : Int) (k : Nat) (hk : 2 ≤ k) (A S : Option Addr) (n c mc : Nat) (w : World) :
    Calls Tryd.prog 24 #[.int .i64 k, .int .i64 i, .slice A n c, .slice S 0 mc] w (GivesDB w (List.replicate 32 0, false)) := by
  have t1 : ¬ (k : Int) = 1 := by omega
  have t2 : ((k : Int) == 1) = false := by simpa using t1
  go_enter Tryd.func24, Tryd.ntmps24
  go_wp2_with (first
    | (refine wpList_al rfl 23 rfl zeroD (zeroD_run _) ?_; intro w1 hB1 hb1 hy; clear hy)
    | ((with_reducible refine at_build 23 ?_); refine wpList_bd rfl 23 rfl _ (zeroD_built _) ?_)
    | (refine wpList_str rfl 23 _ _ rfl w.heap.size zeroD rfl rfl _ zeroD hB1 rfl zeroD_size zeroD_one ?_; intro w3 hB3 hg3 hy; clear hy))
  have hbf := below_set hb1 hg3 (Nat.le_refl _)
  have hres := results_cs (P := Tryd.prog) (fn := Tryd.f24) (p := 8) (t := 9) rfl
  exact bodyPost_ret (hres _ _ w.heap.size _ _ rfl hB3 Tryd.underlying23 rfl zeroD_size) rfl ⟨rfl, hbf⟩

set_option maxRecDepth 100000 in
set_option maxHeartbeats 4000000 in
theorem made_lt (i k : Nat) (hk : 2 ≤ k) (hk2 : k ≤ 256) (hi : i < k) (A S : Option Addr) (n c j mc : Nat) (row : List UInt8) (l : List (List UInt8)) (s : List UInt8) (w : World) (hrow : Rd w 0 1 A n (row.map bv)) (hds : Digs w S (j + 1) (l ++ [s])) (hmc : j + 1 ≤ mc) (hj : j ≤ 1000) (hf : i < frontN k)
    (p : List UInt8 × Bool) (hp : p.1.length = 32) (hrec : ∀ W, Rd W 0 1 A n (row.map bv) → Digs W S j l → Calls Tryd.prog 24 #[.int .i64 (frontN k : Nat), .int .i64 i, .slice A n c, .slice S j mc] W (GivesDB W p)) :
    Calls Tryd.prog 24 #[.int .i64 k, .int .i64 i, .slice A n c, .slice S ((j + 1 : Nat)) mc] w (GivesDB w (digOf 8 [p.1, s], p.2)) := by
  have HR := hid hrow
  have hll := hds.len
  have hlj : l.length = j := by simpa using hll
  have hDl : Hid (∀ W, Digs W S (j + 1) (l ++ [s]) → Digs W S j l) := hid fun W h => by
    refine ⟨fun d hd => h.1 d (by simp [hd]), ?_⟩
    have := h.2.take (k := j) (by omega)
    have h2 := dsL_len (ds := l) (fun d hd => h.1 d (by simp [hd]))
    rwa [dsL_app, List.take_left' (by rw [h2, hlj])] at this
  have HD := hid hds
  have HRec := hid hrec
  unfold GivesDB at HRec
  have hFi := hid (fun W => first_any k hk (by omega) W)
  obtain ⟨b1, b2, b3⟩ := frontN_bounds hk
  have B2 := hid b2
  have t1 : ¬ (k : Int) = 1 := by omega
  have t2 : ((k : Int) == 1) = false := by simpa using t1
  have hk256 : (k : Int) ≤ 256 := by omega
  have hj1k : (j : Int) ≤ 1000 := by omega
  have hjmc : (j : Int) ≤ (mc : Int) := by omega
  have t3 : ¬ (j : Int) + 1 = 0 := by omega
  have t4 : ((j : Int) + 1 == 0) = false := by simpa using t3
  have hsk : (l ++ [s])[j]? = some s := by rw [← hlj]; simp
  obtain ⟨b, o, hSe, _, hsd, hsr, _⟩ := hds.at_ hsk
  have hrS := hid (fun W (h : Below w.heap.size w W) => by
    obtain ⟨b', o', e', _, _, h', _⟩ := (hds.below h).at_ hsk
    rw [hSe] at e'
    cases e'
    exact (h' : W.rangeAt b (o + j * 32) (s.map bv)))
  subst hSe
  have hO := hid (fun W A B (x y : List UInt8) (h1 : Rd W 0 1 A 32 (x.map bv)) (h2 : Rd W 0 1 B 32 (y.map bv)) => refTwoS_any A B 32 32 32 32 x y W h1 h2 (by omega) (by omega))
  unfold GivesD at hO
  unfold GivesDB
  obtain ⟨dp, bp⟩ := p
  dsimp only at hp HRec ⊢
  have hpz := digZ _ hp
  have hpS := digS _ hp
  have hpo := hid (oneBv' dp)
  have hss := digZ _ hsd
  have hsS := digS _ hsd
  have hso := hid (oneBv' s)
  have hd8 := digOf_len 8 [dp, s]
  have h8z := digZ _ hd8
  have h8S := digS _ hd8
  have h8o := hid (oneBv' (digOf 8 [dp, s]))
  have hsL : (Tryd.prog.info? 23).map (·.size) = some (s.map bv).length := by rw [hsS, List.size_toArray]
  obtain ⟨ad, had⟩ : ∃ ad, o + j * 32 = ad := ⟨_, rfl⟩
  rw [had] at hrS hsr
  obtain ⟨f, hff⟩ : ∃ f, frontN k = f := ⟨_, rfl⟩
  rw [hff] at hFi HRec hf b1 b2 b3 B2
  have hfi : (i : Int) < (f : Int) := by omega
  clear hrow hds hrec hsk hll hmc hff
  go_enter Tryd.func24, Tryd.ntmps24
  go_upto_region 7 with (first
    | ((with_reducible refine at_alloc (d := some 8) 23 ?_); refine wpList_al rfl 23 rfl zeroD (zeroD_run _) ?_; intro w1 hB1 hb1 hy; clear hy; have rx := hrS.out w1 hb1)
    | ((with_reducible refine at_load (d := some 33) 23 ?_); refine wpList_load_mid rfl 23 _ rfl b ad rfl _ _ rx Tryd.underlying23 rfl hsL ?_)
    | ((with_reducible refine at_alloc (d := some 10) 23 ?_); refine wpList_al rfl 23 rfl zeroD (zeroD_run _) ?_; intro w2 hB2 hb2 hy; clear hy)
    | ((with_reducible refine at_store 23 ?_); refine wpList_str rfl 23 _ _ rfl w1.heap.size (s.map bv).toArray rfl rfl _ zeroD hB2 hss zeroD_size hso.out ?_; intro w3 hB3 hg3 hy; clear hy))
  have q13 : Below w1.heap.size w1 w3 := hb2.grown hg3 hb2.size (by intro k e; cases e; exact Nat.le_refl _)
  have Y := hid (below_chain hb1 q13)
  have X8 := hid (hB1.belowS q13)
  have X10 := hid hB3
  have l1 := hid (show w.heap.size < w1.heap.size from hB1.lt)
  clear rx hB2 hb2 hB3 hg3 q13 hB1 hb1 hss
  go_upto_region 10 with (first
    | ((with_reducible refine (hFi.out _).mono ?_); rintro e v1 ⟨rfl, hv⟩; subst hv)
    | ((with_reducible refine (HRec.out _ (HR.out.below Y.out) (hDl.out _ (HD.out.below Y.out))).mono ?_); rintro e w4 ⟨rfl, hb4⟩)
    | ((with_reducible refine at_alloc (d := some 13) 23 ?_); refine wpList_al rfl 23 rfl zeroD (zeroD_run _) ?_; intro w5 hB5 hb5 hy; clear hy)
    | ((with_reducible refine at_store 23 ?_); refine wpList_str rfl 23 _ _ rfl w4.heap.size (dp.map bv).toArray rfl rfl _ zeroD hB5 hpz zeroD_size hpo.out ?_; intro w6 hB6 hg6 hy; clear hy))
  have q46 : Below w4.heap.size w4 w6 := hb5.grown hg6 hb5.size (by intro k e; cases e; exact Nat.le_refl _)
  have q := below_chain hb4 q46
  have Y := hid (below_drew1 (below_chain Y.out q))
  have X8 := hid (X8.out.belowS q).drew
  have X10 := hid (X10.out.belowS q).drew
  have X13 := hid hB6.drew
  have R10 := X10.out.rdD hsd
  have R13 := X13.out.rdD hp
  refine wp_region_held_drew (S := (fun _ => True)) (by kernel_rfl) trivial (fun hHeld => ?_)
  refine reg_take (v := ?_) 0 rfl (by kernel_rfl) (by kernel_rfl) (by kernel_rfl) (fun _ _ _ h => h) (Or.inl ⟨by rfl, ?_⟩) (by assumption) ?_; rotate_left; (intro w hSw; (try dsimp only at hSw); go_simp); (try with_reducible rfl); (try simp only [Act.put, List.setIfInBounds_toArray, List.set_cons_zero, List.set_cons_succ])
  refine reg_take (v := ?_) 1 rfl (by kernel_rfl) (by kernel_rfl) (by kernel_rfl) (fun _ _ _ h => h) (Or.inl ⟨by rfl, ?_⟩) (by assumption) ?_; rotate_left; (intro w hSw; (try dsimp only at hSw); go_simp); (try with_reducible rfl); (try simp only [Act.put, List.setIfInBounds_toArray, List.set_cons_zero, List.set_cons_succ])
  refine reg_take (v := ?_) 3 rfl (by kernel_rfl) (by kernel_rfl) (by kernel_rfl) (fun _ _ _ h => h) (Or.inl ⟨by rfl, ?_⟩) (by assumption) ?_; rotate_left; (intro w hSw; (try dsimp only at hSw); go_simp); (try with_reducible rfl); (try simp only [Act.put, List.setIfInBounds_toArray, List.set_cons_zero, List.set_cons_succ])
  refine reg_only 2 rfl (by kernel_rfl) (fun K hK => ?_); go_simp; refine (hO.out _ _ _ dp s R13 R10).mono ?_; rintro e' w7 ⟨rfl, hb7⟩; have X8 := X8.out.belowS hb7; have Y := below_chain Y.out hb7; refine hK.out _ _ ?_ (fun hHeld => ?_); (trivial); clear hK K; (try simp only [Act.put, List.setIfInBounds_toArray, List.set_cons_zero, List.set_cons_succ])
  refine reg_only 4 rfl (by kernel_rfl) (fun K hK => ?_); refine step_str rfl 23 _ _ rfl w.heap.size _ rfl rfl _ _ X8 h8z zeroD_size h8o.out ?_; intro w9 hB9 hg9 hy; clear hy; refine hK.out _ _ ?_ (fun hHeld => ?_); (trivial); clear hK K; (try simp only [Act.put, List.setIfInBounds_toArray, List.set_cons_zero, List.set_cons_succ])
  refine reg_take (v := ?_) 5 rfl (by kernel_rfl) (by kernel_rfl) (by kernel_rfl) (fun _ _ _ h => h) (Or.inl ⟨by rfl, ?_⟩) (by assumption) ?_; rotate_left; (intro w hSw; (try dsimp only at hSw); go_simp); (try with_reducible rfl); (try simp only [Act.put, List.setIfInBounds_toArray, List.set_cons_zero, List.set_cons_succ])
  refine wpAnyH_done (by kernel_rfl) ?_ _
  have hbf := below_set Y hg9 (Nat.le_refl _)
  go_wp2
  have hres := results_cs (P := Tryd.prog) (fn := Tryd.f24) (p := 8) (t := 9) rfl
  exact bodyPost_ret (hres _ _ w.heap.size _ _ rfl hB9 Tryd.underlying23 rfl h8S) rfl ⟨rfl, hbf⟩

set_option maxRecDepth 100000 in
set_option maxHeartbeats 4000000 in
theorem made_ge (i k : Nat) (hk : 2 ≤ k) (hk2 : k ≤ 256) (hi : i < k) (A S : Option Addr) (n c j mc : Nat) (row : List UInt8) (l : List (List UInt8)) (s : List UInt8) (w : World) (hrow : Rd w 0 1 A n (row.map bv)) (hds : Digs w S (j + 1) (l ++ [s])) (hmc : j + 1 ≤ mc) (hj : j ≤ 1000) (hf : ¬ i < frontN k)
    (p : List UInt8 × Bool) (hp : p.1.length = 32) (hrec : ∀ W, Rd W 0 1 A n (row.map bv) → Digs W S j l → Calls Tryd.prog 24 #[.int .i64 ((k : Int) - (frontN k : Nat)), .int .i64 ((i : Int) - (frontN k : Nat)), .slice A n c, .slice S j mc] W (GivesDB W p)) :
    Calls Tryd.prog 24 #[.int .i64 k, .int .i64 i, .slice A n c, .slice S ((j + 1 : Nat)) mc] w (GivesDB w (digOf 8 [s, p.1], p.2)) := by
  have HR := hid hrow
  have hll := hds.len
  have hlj : l.length = j := by simpa using hll
  have hDl : Hid (∀ W, Digs W S (j + 1) (l ++ [s]) → Digs W S j l) := hid fun W h => by
    refine ⟨fun d hd => h.1 d (by simp [hd]), ?_⟩
    have := h.2.take (k := j) (by omega)
    have h2 := dsL_len (ds := l) (fun d hd => h.1 d (by simp [hd]))
    rwa [dsL_app, List.take_left' (by rw [h2, hlj])] at this
  have HD := hid hds
  have HRec := hid hrec
  unfold GivesDB at HRec
  have hFi := hid (fun W => first_any k hk (by omega) W)
  obtain ⟨b1, b2, b3⟩ := frontN_bounds hk
  have B2 := hid b2
  have t1 : ¬ (k : Int) = 1 := by omega
  have t2 : ((k : Int) == 1) = false := by simpa using t1
  have hk256 : (k : Int) ≤ 256 := by omega
  have hj1k : (j : Int) ≤ 1000 := by omega
  have hjmc : (j : Int) ≤ (mc : Int) := by omega
  have t3 : ¬ (j : Int) + 1 = 0 := by omega
  have t4 : ((j : Int) + 1 == 0) = false := by simpa using t3
  have hsk : (l ++ [s])[j]? = some s := by rw [← hlj]; simp
  obtain ⟨b, o, hSe, _, hsd, hsr, _⟩ := hds.at_ hsk
  have hrS := hid (fun W (h : Below w.heap.size w W) => by
    obtain ⟨b', o', e', _, _, h', _⟩ := (hds.below h).at_ hsk
    rw [hSe] at e'
    cases e'
    exact (h' : W.rangeAt b (o + j * 32) (s.map bv)))
  subst hSe
  have hO := hid (fun W A B (x y : List UInt8) (h1 : Rd W 0 1 A 32 (x.map bv)) (h2 : Rd W 0 1 B 32 (y.map bv)) => refTwoS_any A B 32 32 32 32 x y W h1 h2 (by omega) (by omega))
  unfold GivesD at hO
  unfold GivesDB
  obtain ⟨dp, bp⟩ := p
  dsimp only at hp HRec ⊢
  have hpz := digZ _ hp
  have hpS := digS _ hp
  have hpo := hid (oneBv' dp)
  have hss := digZ _ hsd
  have hsS := digS _ hsd
  have hso := hid (oneBv' s)
  have hd8 := digOf_len 8 [s, dp]
  have h8z := digZ _ hd8
  have h8S := digS _ hd8
  have h8o := hid (oneBv' (digOf 8 [s, dp]))
  have hsL : (Tryd.prog.info? 23).map (·.size) = some (s.map bv).length := by rw [hsS, List.size_toArray]
  obtain ⟨ad, had⟩ : ∃ ad, o + j * 32 = ad := ⟨_, rfl⟩
  rw [had] at hrS hsr
  obtain ⟨f, hff⟩ : ∃ f, frontN k = f := ⟨_, rfl⟩
  rw [hff] at hFi HRec hf b1 b2 b3 B2
  have hfi : ¬ (i : Int) < (f : Int) := by omega
  clear hrow hds hrec hsk hll hmc hff
  go_enter Tryd.func24, Tryd.ntmps24
  go_upto_region 7 with (first
    | ((with_reducible refine at_alloc (d := some 8) 23 ?_); refine wpList_al rfl 23 rfl zeroD (zeroD_run _) ?_; intro w1 hB1 hb1 hy; clear hy; have rx := hrS.out w1 hb1)
    | ((with_reducible refine at_load (d := some 33) 23 ?_); refine wpList_load_mid rfl 23 _ rfl b ad rfl _ _ rx Tryd.underlying23 rfl hsL ?_)
    | ((with_reducible refine at_alloc (d := some 10) 23 ?_); refine wpList_al rfl 23 rfl zeroD (zeroD_run _) ?_; intro w2 hB2 hb2 hy; clear hy)
    | ((with_reducible refine at_store 23 ?_); refine wpList_str rfl 23 _ _ rfl w1.heap.size (s.map bv).toArray rfl rfl _ zeroD hB2 hss zeroD_size hso.out ?_; intro w3 hB3 hg3 hy; clear hy))
  have q13 : Below w1.heap.size w1 w3 := hb2.grown hg3 hb2.size (by intro k e; cases e; exact Nat.le_refl _)
  have Y := hid (below_chain hb1 q13)
  have X8 := hid (hB1.belowS q13)
  have X10 := hid hB3
  have l1 := hid (show w.heap.size < w1.heap.size from hB1.lt)
  clear rx hB2 hb2 hB3 hg3 q13 hB1 hb1 hss
  go_upto_region 12 with (first
    | ((with_reducible refine (hFi.out _).mono ?_); rintro e v1 ⟨rfl, hv⟩; subst hv)
    | ((with_reducible refine (HRec.out _ (HR.out.below Y.out) (hDl.out _ (HD.out.below Y.out))).mono ?_); rintro e w4 ⟨rfl, hb4⟩)
    | ((with_reducible refine at_alloc (d := some 15) 23 ?_); refine wpList_al rfl 23 rfl zeroD (zeroD_run _) ?_; intro w5 hB5 hb5 hy; clear hy)
    | ((with_reducible refine at_store 23 ?_); refine wpList_str rfl 23 _ _ rfl w4.heap.size (dp.map bv).toArray rfl rfl _ zeroD hB5 hpz zeroD_size hpo.out ?_; intro w6 hB6 hg6 hy; clear hy))
  have q46 : Below w4.heap.size w4 w6 := hb5.grown hg6 hb5.size (by intro k e; cases e; exact Nat.le_refl _)
  have q := below_chain hb4 q46
  have Y := hid (below_drew1 (below_chain Y.out q))
  have X8 := hid (X8.out.belowS q).drew
  have X10 := hid (X10.out.belowS q).drew
  have X13 := hid hB6.drew
  have R10 := X10.out.rdD hsd
  have R13 := X13.out.rdD hp
  refine wp_region_held_drew (S := (fun _ => True)) (by kernel_rfl) trivial (fun hHeld => ?_)
  refine reg_take (v := ?_) 0 rfl (by kernel_rfl) (by kernel_rfl) (by kernel_rfl) (fun _ _ _ h => h) (Or.inl ⟨by rfl, ?_⟩) (by assumption) ?_; rotate_left; (intro w hSw; (try dsimp only at hSw); go_simp); (try with_reducible rfl); (try simp only [Act.put, List.setIfInBounds_toArray, List.set_cons_zero, List.set_cons_succ])
  refine reg_take (v := ?_) 1 rfl (by kernel_rfl) (by kernel_rfl) (by kernel_rfl) (fun _ _ _ h => h) (Or.inl ⟨by rfl, ?_⟩) (by assumption) ?_; rotate_left; (intro w hSw; (try dsimp only at hSw); go_simp); (try with_reducible rfl); (try simp only [Act.put, List.setIfInBounds_toArray, List.set_cons_zero, List.set_cons_succ])
  refine reg_take (v := ?_) 3 rfl (by kernel_rfl) (by kernel_rfl) (by kernel_rfl) (fun _ _ _ h => h) (Or.inl ⟨by rfl, ?_⟩) (by assumption) ?_; rotate_left; (intro w hSw; (try dsimp only at hSw); go_simp); (try with_reducible rfl); (try simp only [Act.put, List.setIfInBounds_toArray, List.set_cons_zero, List.set_cons_succ])
  refine reg_only 2 rfl (by kernel_rfl) (fun K hK => ?_); go_simp; refine (hO.out _ _ _ s dp R10 R13).mono ?_; rintro e' w7 ⟨rfl, hb7⟩; have X8 := X8.out.belowS hb7; have Y := below_chain Y.out hb7; refine hK.out _ _ ?_ (fun hHeld => ?_); (trivial); clear hK K; (try simp only [Act.put, List.setIfInBounds_toArray, List.set_cons_zero, List.set_cons_succ])
  refine reg_only 4 rfl (by kernel_rfl) (fun K hK => ?_); refine step_str rfl 23 _ _ rfl w.heap.size _ rfl rfl _ _ X8 h8z zeroD_size h8o.out ?_; intro w9 hB9 hg9 hy; clear hy; refine hK.out _ _ ?_ (fun hHeld => ?_); (trivial); clear hK K; (try simp only [Act.put, List.setIfInBounds_toArray, List.set_cons_zero, List.set_cons_succ])
  refine reg_take (v := ?_) 5 rfl (by kernel_rfl) (by kernel_rfl) (by kernel_rfl) (fun _ _ _ h => h) (Or.inl ⟨by rfl, ?_⟩) (by assumption) ?_; rotate_left; (intro w hSw; (try dsimp only at hSw); go_simp); (try with_reducible rfl); (try simp only [Act.put, List.setIfInBounds_toArray, List.set_cons_zero, List.set_cons_succ])
  refine wpAnyH_done (by kernel_rfl) ?_ _
  have hbf := below_set Y hg9 (Nat.le_refl _)
  go_wp2
  have hres := results_cs (P := Tryd.prog) (fn := Tryd.f24) (p := 8) (t := 9) rfl
  exact bodyPost_ret (hres _ _ w.heap.size _ _ rfl hB9 Tryd.underlying23 rfl h8S) rfl ⟨rfl, hbf⟩

theorem made_any (A : Option Addr) (n c : Nat) (row : List UInt8) (hn : n ≤ 5000) : ∀ (rl : List (List UInt8)) (i k : Nat) (S : Option Addr) (m mc : Nat) (w : World), 1 ≤ k → k ≤ 256 → i < k → Rd w 0 1 A n (row.map bv) → Digs w S m rl.reverse → m ≤ mc → m ≤ 1000 →
    Calls Tryd.prog 24 #[.int .i64 k, .int .i64 i, .slice A n c, .slice S m mc] w (GivesDB w (madeR row k i rl))
  | [], i, k, S, m, mc, w, h1, h2, hi, hr, hd, hm, hm2 => by
    have hl := hd.len
    obtain rfl : m = 0 := by simpa using hl.symm
    unfold madeR
    by_cases h : k = 1
    · subst h
      rw [if_pos rfl]
      exact made_one i A S n c 0 mc row true w hr hn rfl
    · rw [if_neg h]
      exact made_none i k (by omega) A S n c mc w
  | s :: l, i, k, S, m, mc, w, h1, h2, hi, hr, hd, hm, hm2 => by
    have hl := hd.len
    obtain ⟨j, rfl⟩ : ∃ j, m = j + 1 := ⟨l.length, by simpa using hl.symm⟩
    unfold madeR
    by_cases h : k = 1
    · subst h
      rw [if_pos rfl]
      exact made_one i A S n c (j + 1) mc row false w hr hn (by simp)
    · rw [if_neg h]
      have hb := frontN_bounds (n := k) (by omega)
      rw [List.reverse_cons] at hd
      by_cases hf : i < frontN k
      · rw [if_pos hf]
        exact made_lt i k (by omega) h2 hi A S n c j mc row l.reverse s w hr hd hm (by omega) hf _ (madeR_len row l _ _) fun W q1 q2 => made_any A n c row hn l i (frontN k) S j mc W (by omega) (by omega) (by omega) q1 q2 (by omega) (by omega)
      · rw [if_neg hf]
        refine made_ge i k (by omega) h2 hi A S n c j mc row l.reverse s w hr hd hm (by omega) hf _ (madeR_len row l _ _) fun W q1 q2 => ?_
        have := made_any A n c row hn l (i - frontN k) (k - frontN k) S j mc W (by omega) (by omega) (by omega) q1 q2 (by omega) (by omega)
        rw [Int.ofNat_sub (by omega), Int.ofNat_sub (by omega)] at this
        exact this
end Go.Proofs.YtheljogmnalbmaaDoor
