/-
  The root of rows: in plain words; contracts of rows.halves, its iterator, rows.root. The table k stands in its variable.
-/
import Derived.Test.YtheljogmnalbmaaDoorRowH
import Derived.Test.YtheljogmnalbmaaDoorRowE
import Derived.Test.YtheljogmnalbmaaDoorInWide
import Derived.Sort.CutIn
namespace Go.Proofs.YtheljogmnalbmaaDoor
open Go.RowKit Go.Shelf
attribute [local go_sem] Oper.semAt_some
set_option linter.unusedSimpArgs false
set_option linter.unusedVariables false

/-- The root of rows. -/
def rootT (pss : List (List UInt8)) : List UInt8 :=
  if h : 2 ≤ pss.length then digOf 8 [rootT (pss.take (frontN pss.length)), rootT (pss.drop (frontN pss.length))]
  else match pss with
    | [] => digOf 0 []
    | p :: _ => digOf 7 [p]
termination_by pss.length
decreasing_by
  · have := frontN_bounds h; simp; omega
  · have := frontN_bounds h; simp; omega
theorem rootT_two {pss : List (List UInt8)} (h : 2 ≤ pss.length) : rootT pss = digOf 8 [rootT (pss.take (frontN pss.length)), rootT (pss.drop (frontN pss.length))] := by
  rw [rootT, dif_pos h]
theorem rootT_nil : rootT [] = digOf 0 [] := by
  rw [rootT, dif_neg (by simp)]
theorem rootT_one (p : List UInt8) : rootT [p] = digOf 7 [p] := by
  rw [rootT, dif_neg (by simp)]
theorem rootT_len (pss : List (List UInt8)) : (rootT pss).length = 32 := by
  by_cases h : 2 ≤ pss.length
  · rw [rootT_two h]
    exact digOf_len _ _
  · match pss, h with
    | [], _ => rw [rootT_nil]; exact digOf_len _ _
    | [p], _ => rw [rootT_one]; exact digOf_len _ _
    | _ :: _ :: _, h => simp at h
theorem parts_take {w : World} {P : Option Addr} {np k : Nat} {pss : List (List UInt8)} (h : Parts w P np pss) (hk : k ≤ np) : Parts w P k (pss.take k) := by
  refine ⟨by rw [List.length_take, h.1]; omega, fun i hi => ?_⟩
  obtain ⟨b, o, A, n, c, e, hlt, hc, hr⟩ := h.2 i (by omega)
  refine ⟨b, o, A, n, c, e, hlt, hc, ?_⟩
  rw [List.getD_eq_getElem?_getD, List.getElem?_take, if_pos hi, ← List.getD_eq_getElem?_getD]
  exact hr
theorem parts_drop {w : World} {b o np k : Nat} {pss : List (List UInt8)} (h : Parts w (some ⟨b, o, none⟩) np pss) : Parts w (some ⟨b, o + k, none⟩) (np - k) (pss.drop k) := by
  refine ⟨by rw [List.length_drop, h.1], fun i hi => ?_⟩
  obtain ⟨b', o', A, n, c, e, hlt, hc, hr⟩ := h.2 (k + i) (by omega)
  cases e
  refine ⟨b, o + k, A, n, c, rfl, hlt, by rw [Nat.add_assoc]; exact hc, ?_⟩
  rw [List.getD_eq_getElem?_getD, List.getElem?_drop, ← List.getD_eq_getElem?_getD]
  exact hr

theorem halves_any (P : Option Addr) (np pc : Nat) (w : World) : Calls Tryd.prog 42 #[.slice P np pc] w fun e w' => e = .returned (.func (.func 49) #[] #[.pointer (some ⟨w.heap.size, 0, none⟩)]) ∧ w' = w.alloc (.cells #[.slice P np pc] 27) := by
  go_enter Tryd.func42, Tryd.ntmps42
  go_wp2
  go_ret
  exact ⟨rfl, rfl⟩

/-- The two parts that come. -/
def halfV (b o np pc f : Nat) (x : Bool) : Value := if x then .slice (some ⟨b, o + f, none⟩) (np - f) (pc - f) else .slice (some ⟨b, o, none⟩) f pc

/-- The box that the iterator reads stays. -/
def KpB (Bl : Nat) (A B : World) : Prop := ∀ v, A.cell? ⟨Bl, 0, none⟩ = some v → B.cell? ⟨Bl, 0, none⟩ = some v
theorem kpB_t {Bl : Nat} {A B C : World} (h : KpB Bl A B) (k : KpB Bl B C) : KpB Bl A C := fun v e => k v (h v e)
theorem kpB_b {Bl N : Nat} (hB : Bl < N) (W : World) (l : Nat) (o o' : Obj) (hl : N ≤ l) (h1 : W.heap[l]? = some o) (h2 : o.isCells = false) (h3 : o.isWalk = false) : KpB Bl W (W.putObj l o') := fun v e =>
  (World.cell?_of_block (a := ⟨Bl, 0, none⟩) (World.putObj_heap_other (by intro (e : Bl = l); omega))).trans e
set_option maxRecDepth 100000 in
set_option maxHeartbeats 2000000 in
theorem halves_stops (n : Nat) (hn : 1 ≤ n) (Bl b o np pc f : Nat) (w : World) (hf : frontN np = f) (h2 : 2 ≤ np) (h512 : np ≤ 512) (hpc : np ≤ pc) (h0 : w.cell? ⟨Bl, 0, none⟩ = some (.slice (some ⟨b, o, none⟩) np pc)) :
    SeqStopsK Fence.wide n Tryd.prog 49 #[.pointer (some ⟨Bl, 0, none⟩)] (fun x : Bool => #[halfV b o np pc f x]) (KpB Bl) (fun ys => ys = [false, true]) (fun _ => True) 2 w := fun l J Jx W hW _ _ hY hJ => by
  have hBl : Bl < w.heap.size := cell_lt h0
  have hc := (hW.cell (p := ⟨Bl, 0, none⟩) hBl).trans h0
  have hFr := hid (fun W => front_any np h2 h512 W)
  rw [hf] at hFr
  obtain ⟨b1, b2, b3⟩ := frontN_bounds h2
  rw [hf] at b1 b2 b3
  obtain ⟨g1, t1, a1, d1, hy1, hR1⟩ := hY [] false W hJ (by simp)
  have e1 : halfV b o np pc f false = .slice (some ⟨b, o, none⟩) f pc := rfl
  try dsimp only at hy1
  rw [e1] at hy1
  have k1 : (0 : Int) ≤ (f : Int) := by omega
  have k2 : (f : Int) ≤ (np : Int) := by omega
  have k3 : (f : Int) ≤ (pc : Int) := by omega
  have k4 : (np : Int) ≤ (pc : Int) := by omega
  have k5 : ¬ pc = f := by omega
  have k6 : f ≤ np := by omega
  have k7 : f ≤ pc := by omega
  refine callsIn_of_wp Tryd.func49 rfl trivial ?_ rfl
  simp only [Tryd.ntmps49, List.size_toArray, List.length_cons, List.length_nil, Nat.reduceAdd, Nat.reduceSub, Array.replicate_succ, Array.replicate_zero, List.push_toArray, List.append_toArray, List.nil_append, List.cons_append]
  gi_wp2_with (refine ⟨trivial, ?_⟩; gi_at_call 31; refine (callsIn_wide.2 (hFr.out _)).mono ?_; rintro e w1 ⟨rfl, hv⟩; subst hv)
  refine hR1.mono ?_
  rintro e W1 (⟨rfl, hJ1, hk1⟩ | ⟨rfl, hx1⟩)
  · have hc1 : W1.cell? ⟨Bl, 0, none⟩ = some (.slice (some ⟨b, o, none⟩) np pc) := hk1 _ hc
    obtain ⟨g2, t2, a2, d2, hy2, hR2⟩ := hY [false] true W1 hJ1 (by simp)
    have e2 : halfV b o np pc f true = .slice (some ⟨b, o + f, none⟩) (np - f) (pc - f) := rfl
    try dsimp only at hy2
    rw [e2] at hy2
    gi_wp2
    refine hR2.mono ?_
    rintro e W2 (⟨rfl, hJ2, hk2⟩ | ⟨rfl, hx2⟩)
    · gi_wp2
      go_end0
      exact ⟨⟨_, rfl⟩, .inl ⟨_, rfl, hJ2⟩⟩
    · gi_wp2
      go_end0
      exact ⟨⟨_, rfl⟩, .inr ⟨_, trivial, hx2⟩⟩
  · gi_wp2
    go_end0
    exact ⟨⟨_, rfl⟩, .inr ⟨_, trivial, hx1⟩⟩

theorem slice_info : (Tryd.prog.info? 24).map (fun i => (i.zero, i.size, i.bytes)) = some (some (.slice none 0 0), 1, 24) := by kernel_rfl
theorem two_facts1 {w : World} {g : Nat} {t : TypeId} {a : Value} (h : Blk w g t #[a]) : w.cell? ⟨g, 0, none⟩ = some a ∧ w.frozen? ⟨g, 0, none⟩ = false := ⟨h.cellv rfl, h.frozen 0⟩
section
variable {w0 w w' : World} {bad : Nat → Prop}
theorem Chg.thenBelow (h : Chg w0 w bad) (hb : Below w.heap.size w w') : Chg w0 w' bad :=
  ⟨hb.os.trans h.os, hb.tape.trans h.tape, hb.output.trans h.output, Nat.le_trans h.size hb.size, fun b hl hn => (hb.block b (Nat.lt_of_lt_of_le hl h.size)).trans (h.block b hl hn)⟩
theorem Chg.thenGrown {row : Option Nat} (h : Chg w0 w bad) (hg : w.grownBy w' row) (hr : ∀ g, row = some g → w0.heap.size ≤ g ∨ bad g) : Chg w0 w' bad :=
  ⟨hg.os.trans h.os, hg.tape.trans h.tape, hg.output.trans h.output, Nat.le_trans h.size hg.size, fun b hl hn => (hg.block b (Nat.lt_of_lt_of_le hl h.size) (fun e => by rcases hr b e.symm with k | k; omega; exact hn k)).trans (h.block b hl hn)⟩
theorem own_cells {lo sz n c g : Nat} {e : TypeId} {A : Option Addr} {xs : List Value} (h : Go.Proofs.YtheljogmnalbmaaDoor.Own w lo e sz A n c xs) (hr : rowOf A c = some g) : ∃ cs, Blk w g e cs := by
  rcases h with ⟨rfl, rfl, _⟩ | ⟨g', cur, rfl, hlo, hh, _⟩
  · simp [rowOf] at hr
  · unfold rowOf at hr
    split at hr
    · cases hr
    · simp at hr
      subst hr
      exact ⟨cur, hh⟩
theorem blk_type {g : Nat} {t t' : TypeId} {cs cs' : Array Value} (h : Blk w g t cs) (h' : Blk w g t' cs') : t = t' := by
  have h1 : w.heap[g]? = some (.cells cs t (0, 0)) := h
  have h2 : w.heap[g]? = some (.cells cs' t' (0, 0)) := h'
  rw [h1] at h2
  cases h2
  rfl
end
/-- Digests in blocks of their own. -/
def Dgs (W : World) (xs : List Value) (ds : List (List UInt8)) : Prop := ds.length = xs.length ∧ ∀ i, i < xs.length → ∃ g, xs[i]? = some (.slice (some ⟨g, 0, none⟩) 32 32) ∧ Blk W g 23 ((ds.getD i []).map bv).toArray
/-- How the world stands between two rounds. -/
def RI (gz : Nat) (w : World) (ga B : Nat) (dg : Bool → List UInt8) (pre : List Bool) (W : World) : Prop :=
  (∃ (D : Option Addr) (c : Nat) (xs : List Value), Blk W ga 27 #[.slice D pre.length c] ∧ Go.Proofs.YtheljogmnalbmaaDoor.Own W B 24 1 D pre.length c xs ∧ Dgs W xs (pre.map dg)) ∧ Blk W gz 23 zeroD ∧ B ≤ W.heap.size ∧ Below w.heap.size w W
theorem ri_own {gz ga B : Nat} {w : World} {dg : Bool → List UInt8} (hB : w.heap.size ≤ B) : OwnFrom B (RI gz w ga B dg) := by
  rintro pre W W' row ⟨⟨D, c, xs, hA, hO, hl, hX⟩, hZ, hs, hb⟩ hg hr
  have hr' : ∀ r, row = some r → ∃ o : Obj, W.heap[r]? = some o ∧ o.isCells = false := fun r e => (hr r e).2
  refine ⟨⟨D, c, xs, kept_blk hA hg hr', kept_own hO hg hr', hl, fun i hi => ?_⟩, kept_blk hZ hg hr', Nat.le_trans hs hg.size, hb.grown hg hb.size (fun r e => by have := (hr r e).1; omega)⟩
  obtain ⟨g, h1, h2⟩ := hX i hi
  exact ⟨g, h1, kept_blk h2 hg hr'⟩
theorem parts_of_dgs {w : World} {lo n c : Nat} {e : TypeId} {D : Option Addr} {xs : List Value} {ds : List (List UInt8)} (hO : Go.Proofs.YtheljogmnalbmaaDoor.Own w lo e 1 D n c xs) (hX : Dgs w xs ds) (h32 : ∀ i, i < n → (ds.getD i []).length = 32) : Parts w D n ds := by
  have hl := hO.len
  refine ⟨by rw [hX.1]; omega, fun i hi => ?_⟩
  obtain ⟨g, h1, h2⟩ := hX.2 i (by omega)
  obtain ⟨b, o, e', _, hlt, hc⟩ := hO.rd.lt (by omega)
  exact ⟨b, o, some ⟨g, 0, none⟩, 32, 32, e', hlt, by rw [hc i (by omega), h1], h2.rdD (h32 i hi)⟩

set_option maxRecDepth 100000 in
set_option maxHeartbeats 4000000 in
theorem root_two (b o np pc f : Nat) (pss : List (List UInt8)) (w : World) (hf : frontN np = f) (h2 : 2 ≤ np) (h512 : np ≤ 512) (hpc : np ≤ pc) (hP : Parts w (some ⟨b, o, none⟩) np pss) (hK : KOk w) (dl dr : List UInt8) (hdl : dl.length = 32) (hdr : dr.length = 32)
    (hL : ∀ W, Parts W (some ⟨b, o, none⟩) f (pss.take f) → KOk W → Calls Tryd.prog 27 #[.slice (some ⟨b, o, none⟩) f pc] W (GivesD W dl))
    (hR : ∀ W, Parts W (some ⟨b, o + f, none⟩) (np - f) (pss.drop f) → KOk W → Calls Tryd.prog 27 #[.slice (some ⟨b, o + f, none⟩) (np - f) (pc - f)] W (GivesD W dr)) :
    Calls Tryd.prog 27 #[.slice (some ⟨b, o, none⟩) np pc] w (GivesD w (digOf 8 [dl, dr])) := by
  have HP := hid hP
  have HK := hid hK
  have HL := hid hL
  have HR := hid hR
  have t1 : ¬ (np : Int) = 0 := by omega
  have t2 : ((np : Int) == 0) = false := by simpa using t1
  have t3 : ¬ (np : Int) = 1 := by omega
  have t4 : ((np : Int) == 1) = false := by simpa using t3
  clear hP hK hL hR
  refine (callsIn_wide (n := 3)).1 ?_
  refine callsIn_of_wp_marks Tryd.func27 rfl trivial ?_ rfl
  simp only [Tryd.ntmps27, List.size_toArray, List.length_cons, List.length_nil, Nat.reduceAdd, Nat.reduceSub, Array.replicate_succ, Array.replicate_zero, List.push_toArray, List.append_toArray, List.nil_append, List.cons_append]
  refine wpIn_wide.2 ?_
  go_wp2_with (first
    | ((with_reducible refine at_alloc (d := some 2) 23 ?_); refine wpList_al rfl 23 rfl zeroD (zeroD_run _) ?_; intro w1 hB1 hb1 hy; clear hy)
    | ((with_reducible refine (halves_any _ np pc _).mono ?_); rintro e w3 ⟨rfl, hv⟩; have hw3 := hid hv; clear hv))
  have hw3' := hw3.out
  clear hw3
  obtain ⟨i0, hi0, hz0, hz1, hz2⟩ := info_parts slice_info
  obtain ⟨w2, hw2⟩ : ∃ w2, w1.alloc (.cells #[.slice none 0 0] 27) = w2 := ⟨_, rfl⟩
  rw [hw2] at hw3'
  have bA2 : Blk w2 w1.heap.size 27 #[.slice none 0 0] := by rw [← hw2]; exact Blk.new _ _ _
  have s2 : w2.heap.size = w1.heap.size + 1 := by rw [← hw2]; simp
  have bA : Blk w3 w1.heap.size 27 #[.slice none 0 0] := by rw [hw3']; exact bA2.alloc _
  have bB : Blk w3 (w1.heap.size + 1) 27 #[.slice (some ⟨b, o, none⟩) np pc] := by rw [hw3', ← s2]; exact Blk.new _ _ _
  have s3 : w3.heap.size = w1.heap.size + 2 := by rw [hw3']; simp [s2]
  have q12 : Below w1.heap.size w1 w2 := by rw [← hw2]; exact below_alloc1 _ _
  have q13 : Below w1.heap.size w1 w3 := by rw [hw3']; exact below_chain q12 (below_alloc1 _ _)
  have hb3 := below_chain hb1 q13
  have bZ : Blk w3 w.heap.size 23 zeroD := hB1.belowS q13
  have l1 : w.heap.size < w1.heap.size := hB1.lt
  clear hw2 hw3' bA2 hB1 hb1 q12 q13
  obtain ⟨dg, hdg⟩ : ∃ dg : Bool → List UInt8, dg = fun x => if x then dr else dl := ⟨_, rfl⟩
  have hd32 : ∀ x, (dg x).length = 32 := fun x => by rw [hdg]; cases x <;> assumption
  have hrec : ∀ x W, Below w.heap.size w W → Calls Tryd.prog 27 #[halfV b o np pc f x] W (GivesD W (dg x)) := fun x W hb => by
    rw [hdg]
    have hfb := frontN_bounds h2
    rw [hf] at hfb
    cases x
    · exact HL.out W (parts_take (HP.out.below hb) (by omega)) (HK.out.below hb)
    · exact HR.out W (parts_drop (HP.out.below hb)) (HK.out.below hb)
  have hfl : ([false, true] : List Bool).map dg = [dl, dr] := by rw [hdg]; rfl
  have HF := hid hfl
  have HD32 := hid hd32
  have HRec := hid hrec
  clear hdg hfl hd32 hrec HL HR
  refine (wpIn_wide (n := 3)).1 ?_
  refine wpIn_rangeFunc_ownG rfl (by omega) (gf := 49) (lb := #[.pointer (some ⟨w1.heap.size + 1, 0, none⟩)]) rfl trivial (enters_of Tryd.func49 (by kernel_rfl) rfl)
    (halves_stops _ (by omega) (w1.heap.size + 1) b o np pc f w3 hf h2 h512 hpc (bB.cellv rfl)) kpB_t (kpB_b (by omega)) (Below.refl _ _) (fun _ => rfl)
    (RI w.heap.size w w1.heap.size w3.heap.size dg) (fun _ _ _ => False)
    (ri_own (by omega)) (fun _ _ _ _ _ hs _ _ => hs) ⟨⟨none, 0, [], bA, Own.nil _ _ _ _ _, rfl, fun i hi => by simp at hi⟩, bZ, Nat.le_refl _, hb3⟩
    (fun x => { tmps := #[.slice (some ⟨b, o, none⟩) np pc, undef, .pointer (some ⟨w.heap.size, 0, none⟩), .pointer (some ⟨w1.heap.size, 0, none⟩), halfV b o np pc f x, undef, .slice (some ⟨b, o, none⟩) np pc, .int .i64 np, .bool false, .bool false, undef, .bool false, .bool false, undef, undef, undef, undef, undef, .slice (some ⟨b, o, none⟩) np pc, .func (.func 49) #[] #[.pointer (some ⟨w1.heap.size + 1, 0, none⟩)], halfV b o np pc f x, undef, undef, undef, undef, undef, undef, undef, undef], defers := [] }) ?assign ?body ?done ?stop
  case assign =>
    intro l x W K hK
    gi_wp2
    exact hK
  case body =>
    rintro l pre x W ⟨⟨D, c, xs, hA, hO, hXl, hX⟩, hZ, hlB, hB⟩ hlen
    have hx32 := HD32.out x
    have hsz := digZ _ hx32
    have hone := hid (oneBv' (dg x))
    have hRx := hid (HRec.out x W hB)
    unfold GivesD at hRx
    generalize halfV b o np pc f x = hv at *
    gi_upto_region 10 with (first
      | (refine ⟨trivial, ?_⟩; gi_at_call 27; refine (CallsIn.inRound l (callsIn_wide.2 hRx.out)).mono ?_; rintro e u1 ⟨rfl, hu1⟩)
      | (refine wpListIn_al rfl 23 rfl zeroD (zeroD_run _) ?_; intro u2 hU2 hu2 hy; clear hy)
      | (refine wpListIn_str rfl 23 _ _ rfl u1.heap.size ((dg x).map bv).toArray rfl rfl _ zeroD hU2 hsz zeroD_size hone.out ?_; intro u3 hU3 hg3 hy; clear hy))
    have q13 : Below u1.heap.size u1 u3 := hu2.grown hg3 hu2.size (by intro k e; cases e; exact Nat.le_refl _)
    have qW := below_drew1 (below_chain hu1 q13)
    have hx3 := hid hU3.drew
    have hA3 := (hA.belowS qW)
    have hO3 := hid (hO.below qW)
    have c3 := hA3.cellv (i := 0) (v := .slice D pre.length c) rfl
    have f3 := hA3.frozen 0
    have hl1 := hid hu1.size
    have hlt3 := hid hU3.lt
    have hba := below_alloc1 u3.drew (.cells #[.slice (some ⟨u1.heap.size, 0, none⟩) 32 32] 24)
    have hOb := hO3.out.below hba
    have hRb := (Rd.lit u3.drew 24 1 [.slice (some ⟨u1.heap.size, 0, none⟩) 32 32] rfl).low (Nat.zero_le _)
    have hlb : w3.heap.size ≤ (u3.drew.alloc (.cells #[.slice (some ⟨u1.heap.size, 0, none⟩) 32 32] 24)).heap.size := by have := qW.size; have := hba.size; omega
    have hrl := hid (fun g (e : rowOf D c = some g) => hO.row_lt g e)
    have hgB := hid (fun v (hg : (u3.drew.alloc (.cells #[.slice (some ⟨u1.heap.size, 0, none⟩) 32 32] 24)).grownBy v (rowOf D c)) => ((hA3.belowS hba).grown hg (fun e => by have := (hrl.out _ e.symm).1; omega) : Blk v w1.heap.size 27 #[.slice D pre.length c]))
    have hgA := hid (fun v hg => two_facts1 (hgB.out v hg))
    have cb : (u3.alloc (.cells #[.slice (some ⟨u1.heap.size, 0, none⟩) 32 32] 24)).cell? ⟨w1.heap.size, 0, none⟩ = some (.slice D pre.length c) := (two_facts1 (hA3.belowS hba)).1
    have hfin : Hid (∀ (a : Act) D' c' v, Go.Proofs.YtheljogmnalbmaaDoor.Own v w3.heap.size 24 1 D' (pre.length + 1) c' (xs ++ [.slice (some ⟨u1.heap.size, 0, none⟩) 32 32]) → (u3.drew.alloc (.cells #[.slice (some ⟨u1.heap.size, 0, none⟩) 32 32] 24)).grownBy v (rowOf D c) →
        ownPostG w3.heap.size (KpB (w1.heap.size + 1)) (RI w.heap.size w w1.heap.size w3.heap.size dg) (fun _ _ _ => False) (pre ++ [x]) W .normal a (v.setCell ⟨w1.heap.size, 0, none⟩ (.slice D' (pre.length + 1) c'))) := hid (fun a D' c' v hO7 hg7 => by
      have hC : Chg W (v.setCell ⟨w1.heap.size, 0, none⟩ (.slice D' (pre.length + 1) c')) (fun q => rowOf D c = some q ∨ q = w1.heap.size) := ((((Chg.refl W _).thenBelow qW).thenBelow hba).thenGrown hg7 (fun g e => .inr (.inl e))).setCell _ (.inl (.inr rfl))
      have hcl : ∀ q ob, (rowOf D c = some q ∨ q = w1.heap.size) → W.heap[q]? = some ob → ob.isCells = true := by
        rintro q ob (e | rfl) ho
        · obtain ⟨cs, hcs⟩ := own_cells hO e
          have h1 : W.heap[q]? = some (.cells cs 24 (0, 0)) := hcs
          rw [h1] at ho
          cases ho
          rfl
        · have h1 : W.heap[w1.heap.size]? = some (.cells #[.slice D pre.length c] 27 (0, 0)) := hA
          rw [h1] at ho
          cases ho
          rfl
      have hnb : ∀ g, g < w3.heap.size → g ≠ w1.heap.size → ¬ (rowOf D c = some g ∨ g = w1.heap.size) := fun g hg hne e => by
        rcases e with e | e
        · have := (hrl.out g e).1; omega
        · exact hne e
      have hnd : ∀ g ds, Blk W g 23 ds → ¬ (rowOf D c = some g ∨ g = w1.heap.size) := fun g ds hg e => by
        rcases e with e | rfl
        · obtain ⟨cs, hcs⟩ := own_cells hO e
          exact absurd (blk_type hg hcs) (by decide)
        · exact absurd (blk_type hg hA) (by decide)
      have e1 : (pre ++ [x]).length = pre.length + 1 := by simp
      have hxl := hO.len
      rw [Nat.mul_one] at hxl
      refine ⟨KeepsFrom.of_chg hC hcl, fun v' e => (World.cell?_of_block (a := ⟨w1.heap.size + 1, 0, none⟩) (hC.block (w1.heap.size + 1) (cell_lt e) (hnb (w1.heap.size + 1) (by omega) (by omega)))).trans e, ⟨D', c', xs ++ [.slice (some ⟨u1.heap.size, 0, none⟩) 32 32], ?_, ?_, ?_, fun i hi => ?_⟩, hC.blk hZ (hnb w.heap.size (by omega) (by omega)), Nat.le_trans hlB hC.size, below_of_chg hB hC (fun b e => ?_)⟩
      · rw [e1]
        exact (hgB.out v hg7).set_ 0 _
      · rw [e1]
        exact hO7.setRow (fun e => by have := (hO7.row_lt _ e).1; omega) _
      · simp [hxl]
      · by_cases h : i < xs.length
        · obtain ⟨g, h1, h2⟩ := hX i h
          refine ⟨g, by rw [List.getElem?_append_left h]; exact h1, ?_⟩
          rw [List.map_append, List.getD_eq_getElem?_getD, List.getElem?_append_left (by rw [hXl]; exact h), ← List.getD_eq_getElem?_getD]
          exact hC.blk h2 (hnd g _ h2)
        · have hix : i = xs.length := by simp at hi; omega
          subst hix
          refine ⟨u1.heap.size, by simp, ?_⟩
          rw [List.map_append, List.getD_eq_getElem?_getD, List.getElem?_append_right (by rw [hXl]; exact Nat.le_refl _), hXl, Nat.sub_self]
          exact (((hx3.out.belowS hba).grown hg7 (fun e => by have := (hrl.out _ e.symm).2; have := hl1.out; omega)).far (by have := hl1.out; omega) _)
      · rcases e with e | rfl
        · have := (hrl.out b e).1; omega
        · omega)
    refine wpIn_region_any (by kernel_rfl) ?_
    change wpAnyIn _ _ _ _ _ _ _ _ _ u3.drew
    have hpl : pre.length ≤ 2 := by omega
    clear hx3 hO3 hX hXl hZ hB hO hA hA3 qW q13 hU2 hu2 hU3 hg3
    refine wpAnyIn_twoK 0 1 (by kernel_rfl) rfl rfl rfl rfl (by intro c e; cases e) (by intro c e; cases e) (fun K hK => ?_) (fun K hK => ?_)
    · go_simp; refine hK _ _ ?_; clear hK K; (try simp only [Act.put, List.setIfInBounds_toArray, List.set_cons_zero, List.set_cons_succ])
      refine wpAnyIn_onlyK 1 (by kernel_rfl) rfl rfl (by intro c e; cases e) (fun K hK => ?_); go_simp; refine hK _ _ ?_; clear hK K; (try simp only [Act.put, List.setIfInBounds_toArray, List.set_cons_zero, List.set_cons_succ])
      refine wpAnyIn_onlyK 2 (by kernel_rfl) rfl rfl (by intro c e; cases e) (fun K hK => ?_); go_simp; refine hK _ _ ?_; clear hK K; (try simp only [Act.put, List.setIfInBounds_toArray, List.set_cons_zero, List.set_cons_succ])
      refine wpAnyIn_onlyK 3 (by kernel_rfl) rfl rfl (by intro c e; cases e) (fun K hK => ?_); refine op_app _ _ _ rfl w3.heap.size 24 i0 _ 1 24 Tryd.underlying27 hi0 hz0 hz1 hz2 rfl (by omega) D pre.length c xs rfl hOb _ 1 1 0 [.slice (some ⟨u1.heap.size, 0, none⟩) 32 32] rfl hRb (by simp [Value.oneCell']) (by simp only [maxLen]; omega) (by omega) hlb ?_; intro D' c' v hO7 hg7 hat; refine hK _ _ ?_; clear hK K; (try simp only [Act.put, List.setIfInBounds_toArray, List.set_cons_zero, List.set_cons_succ]); have hcv := (hgA.out v hg7).1; have hfv := (hgA.out v hg7).2
      refine wpAnyIn_onlyK 4 (by kernel_rfl) rfl rfl (by intro c e; cases e) (fun K hK => ?_); go_simp; refine hK _ _ ?_; clear hK K; (try simp only [Act.put, List.setIfInBounds_toArray, List.set_cons_zero, List.set_cons_succ])
      refine wpAnyIn_done (by kernel_rfl) ?_; exact hfin.out { tmps := #[], defers := [] } D' c' v hO7 hg7
    · go_simp; refine hK _ _ ?_; clear hK K; (try simp only [Act.put, List.setIfInBounds_toArray, List.set_cons_zero, List.set_cons_succ])
      refine wpAnyIn_twoK 0 2 (by kernel_rfl) rfl rfl rfl rfl (by intro c e; cases e) (by intro c e; cases e) (fun K hK => ?_) (fun K hK => ?_)
      · go_simp; refine hK _ _ ?_; clear hK K; (try simp only [Act.put, List.setIfInBounds_toArray, List.set_cons_zero, List.set_cons_succ])
        refine wpAnyIn_onlyK 2 (by kernel_rfl) rfl rfl (by intro c e; cases e) (fun K hK => ?_); go_simp; refine hK _ _ ?_; clear hK K; (try simp only [Act.put, List.setIfInBounds_toArray, List.set_cons_zero, List.set_cons_succ])
        refine wpAnyIn_onlyK 3 (by kernel_rfl) rfl rfl (by intro c e; cases e) (fun K hK => ?_); refine op_app _ _ _ rfl w3.heap.size 24 i0 _ 1 24 Tryd.underlying27 hi0 hz0 hz1 hz2 rfl (by omega) D pre.length c xs rfl hOb _ 1 1 0 [.slice (some ⟨u1.heap.size, 0, none⟩) 32 32] rfl hRb (by simp [Value.oneCell']) (by simp only [maxLen]; omega) (by omega) hlb ?_; intro D' c' v hO7 hg7 hat; refine hK _ _ ?_; clear hK K; (try simp only [Act.put, List.setIfInBounds_toArray, List.set_cons_zero, List.set_cons_succ]); have hcv := (hgA.out v hg7).1; have hfv := (hgA.out v hg7).2
        refine wpAnyIn_onlyK 4 (by kernel_rfl) rfl rfl (by intro c e; cases e) (fun K hK => ?_); go_simp; refine hK _ _ ?_; clear hK K; (try simp only [Act.put, List.setIfInBounds_toArray, List.set_cons_zero, List.set_cons_succ])
        refine wpAnyIn_done (by kernel_rfl) ?_; exact hfin.out { tmps := #[], defers := [] } D' c' v hO7 hg7
      · go_simp; refine hK _ _ ?_; clear hK K; (try simp only [Act.put, List.setIfInBounds_toArray, List.set_cons_zero, List.set_cons_succ])
        refine wpAnyIn_onlyK 0 (by kernel_rfl) rfl rfl (by intro c e; cases e) (fun K hK => ?_); go_simp; refine hK _ _ ?_; clear hK K; (try simp only [Act.put, List.setIfInBounds_toArray, List.set_cons_zero, List.set_cons_succ])
        refine wpAnyIn_onlyK 3 (by kernel_rfl) rfl rfl (by intro c e; cases e) (fun K hK => ?_); refine op_app _ _ _ rfl w3.heap.size 24 i0 _ 1 24 Tryd.underlying27 hi0 hz0 hz1 hz2 rfl (by omega) D pre.length c xs rfl hOb _ 1 1 0 [.slice (some ⟨u1.heap.size, 0, none⟩) 32 32] rfl hRb (by simp [Value.oneCell']) (by simp only [maxLen]; omega) (by omega) hlb ?_; intro D' c' v hO7 hg7 hat; refine hK _ _ ?_; clear hK K; (try simp only [Act.put, List.setIfInBounds_toArray, List.set_cons_zero, List.set_cons_succ]); have hcv := (hgA.out v hg7).1; have hfv := (hgA.out v hg7).2
        refine wpAnyIn_onlyK 4 (by kernel_rfl) rfl rfl (by intro c e; cases e) (fun K hK => ?_); go_simp; refine hK _ _ ?_; clear hK K; (try simp only [Act.put, List.setIfInBounds_toArray, List.set_cons_zero, List.set_cons_succ])
        refine wpAnyIn_done (by kernel_rfl) ?_; exact hfin.out { tmps := #[], defers := [] } D' c' v hO7 hg7
  case done =>
    rintro Dd ys W hDd rfl ⟨⟨D, c, xs, hA, hO, hX⟩, hZ, hlB, hB⟩ hK
    rw [HF.out] at hX
    have e2 : ([false, true] : List Bool).length = 2 := rfl
    rw [e2] at hA hO
    have hPt := parts_of_dgs hO hX (fun i hi => by
      match i, hi with
      | 0, _ => exact hdl
      | 1, _ => exact hdr)
    obtain ⟨ca, fa⟩ := two_facts1 hA
    have hOf := hid (show Calls Tryd.prog 23 #[.int .u8 8, .slice D 2 c] W (GivesD W (digOf 8 [dl, dr])) from tagOf_any 8 D 2 c [dl, dr] W hPt (by omega) (fun q hq => by simp at hq; rcases hq with rfl | rfl <;> omega) (HK.out.below hB))
    have hd8 := digOf_len 8 [dl, dr]
    have h8z := digZ _ hd8
    have h8S := digS _ hd8
    have h8o := hid (oneBv' (digOf 8 [dl, dr]))
    unfold GivesD at hOf
    unfold GivesD
    have hKs := hid hK
    have hZs := hid hZ
    clear hX hPt hO hK hZ
    go_wp2_with (first
      | ((with_reducible refine (hOf.out).mono ?_); rintro e x1 ⟨rfl, hx1⟩)
      | (refine wpList_str rfl 23 _ _ rfl w.heap.size _ rfl rfl _ zeroD (hZs.out.belowS hx1) h8z zeroD_size h8o.out ?_; intro x2 hX2 hg2 hy; clear hy))
    have hDW : Dd < W.heap.size := (Array.getElem?_eq_some_iff.1 hKs.out).1
    have hK' : x2.heap[Dd]? = some (.deferred (some [])) := (hg2.block Dd (by have := hx1.size; omega) (fun e => by have := Option.some.inj e; omega)).trans ((hx1.block Dd hDW).trans hKs.out)
    have hbf := below_set (below_chain hB hx1) hg2 (Nat.le_refl _)
    refine ⟨by simp, .inl ⟨_, _, rfl, run_takeDeferred hK', ?_⟩⟩
    have hZf := kept_blk hX2 (grownBy_putObj' x2 Dd (.deferred none)) (fun r e => by cases e; exact ⟨_, hK', rfl⟩)
    have hres := results_c (P := Tryd.prog) (fn := Tryd.f27) (p := 2) rfl
    exact ⟨_, hres _ _ w.heap.size _ _ rfl hZf Tryd.underlying23 rfl h8S, rfl, hbf.trans (belowK_b (w := w) (Nat.le_refl _) _ Dd _ _ (by omega) hK' rfl rfl)⟩
  case stop =>
    rintro D c pre W _ _ h
    exact h.elim
end Go.Proofs.YtheljogmnalbmaaDoor
