/-
  Slices of digests; whether sides fit a root: in plain words; contract of rows.Fits. The table k stands in its variable.
-/
import Derived.Test.YtheljogmnalbmaaDoorRowD
import Derived.Test.YtheljogmnalbmaaDoorGuards
namespace Go.Proofs.YtheljogmnalbmaaDoor
open Go.RowKit
set_option linter.unusedSimpArgs false
set_option linter.unusedVariables false

/-- Digests as cells. -/
def dsL (ds : List (List UInt8)) : List Value := ds.flatMap (·.map bv)
def Dg (ds : List (List UInt8)) : Prop := ∀ d ∈ ds, d.length = 32
theorem dsL_len {ds : List (List UInt8)} (h : Dg ds) : (dsL ds).length = ds.length * 32 := by
  induction ds with
  | nil => rfl
  | cons d ds ih =>
    have := ih (fun x hx => h x (List.mem_cons_of_mem _ hx))
    have h1 := h d List.mem_cons_self
    simp only [dsL, List.flatMap_cons, List.length_append, List.length_map, List.length_cons] at this ⊢
    omega
theorem dsL_app (a b : List (List UInt8)) : dsL (a ++ b) = dsL a ++ dsL b := by simp [dsL]
theorem dsL_one (ds : List (List UInt8)) : ∀ v ∈ dsL ds, v.oneCell' = true := by
  intro v hv
  simp only [dsL, List.mem_flatMap] at hv
  obtain ⟨d, _, h⟩ := hv
  exact bv_one d v h
theorem dsL_at {ds : List (List UInt8)} (h : Dg ds) {k : Nat} {d : List UInt8} (hk : ds[k]? = some d) (j : Nat) (hj : j < 32) : (dsL ds)[k * 32 + j]? = (d.map bv)[j]? := by
  induction ds generalizing k with
  | nil => simp at hk
  | cons y ds ih =>
    have hy : (y.map bv).length = 32 := by simpa using h y List.mem_cons_self
    simp only [dsL, List.flatMap_cons]
    cases k with
    | zero =>
      simp at hk
      subst hk
      rw [Nat.zero_mul, Nat.zero_add, List.getElem?_append_left (by omega)]
    | succ k =>
      rw [List.getElem?_append_right (by omega), hy, show (k + 1) * 32 + j - 32 = k * 32 + j by omega]
      exact ih (fun x hx => h x (List.mem_cons_of_mem _ hx)) (by simpa using hk)
/-- A slice of digests. -/
def Digs (w : World) (A : Option Addr) (n : Nat) (ds : List (List UInt8)) : Prop := Dg ds ∧ Rd w 0 32 A n (dsL ds)
theorem Digs.len {w : World} {A : Option Addr} {n : Nat} {ds : List (List UInt8)} (h : Digs w A n ds) : ds.length = n := by
  have := h.2.1
  rw [dsL_len h.1] at this
  omega
theorem Digs.below {w w' : World} {A : Option Addr} {n : Nat} {ds : List (List UInt8)} (h : Digs w A n ds) (hb : Below w.heap.size w w') : Digs w' A n ds := ⟨h.1, h.2.below hb⟩
theorem Digs.at_ {w : World} {A : Option Addr} {n k : Nat} {ds : List (List UInt8)} {d : List UInt8} (h : Digs w A n ds) (hk : ds[k]? = some d) :
    ∃ b o, A = some ⟨b, o, none⟩ ∧ b < w.heap.size ∧ d.length = 32 ∧ w.rangeAt b (o + k * 32) (d.map bv) ∧ Rd w 0 1 (some ⟨b, o + k * 32, none⟩) 32 (d.map bv) := by
  have hl := h.len
  have hkn : k < ds.length := (List.getElem?_eq_some_iff.1 hk).1
  have hd : d.length = 32 := h.1 d (List.mem_of_getElem? hk)
  obtain ⟨b, o, e, _, hlt, hc⟩ := h.2.lt (by omega)
  have key : ∀ j, j < 32 → w.cell? ⟨b, o + k * 32 + j, none⟩ = (d.map bv)[j]? := fun j hj => by
    rw [Nat.add_assoc, hc _ (by omega), dsL_at h.1 hk j hj]
  refine ⟨b, o, e, hlt, hd, fun j v hv => ?_, by simpa using hd, fun _ => ⟨b, o + k * 32, rfl, Nat.zero_le _, fun j hj => key j (by omega)⟩⟩
  have hj : j < (d.map bv).length := (List.getElem?_eq_some_iff.1 hv).1
  rw [key j (by simpa [hd] using hj)]
  exact hv
theorem Blk.rdD {w : World} {g : Nat} {t : TypeId} {d : List UInt8} (h : Blk w g t (d.map bv).toArray) (hd : d.length = 32) : Rd w 0 1 (some ⟨g, 0, none⟩) 32 (d.map bv) :=
  ⟨by simpa using hd, fun _ => ⟨g, 0, rfl, Nat.zero_le _, fun j _ => by rw [Nat.zero_add, h.cell j, List.getElem?_toArray]⟩⟩
/-- One result: whether. -/
def GivesBo (w : World) (b : Bool) (e : Ending) (w' : World) : Prop := e = .returned (.bool b) ∧ Below w.heap.size w w'
def fork1 (d : List UInt8) (r : Bool) (s : List UInt8) : List UInt8 := if r then digOf 8 [s, d] else digOf 8 [d, s]
theorem fork1_len (d : List UInt8) (r : Bool) (s : List UInt8) : (fork1 d r s).length = 32 := by
  unfold fork1
  split <;> exact digOf_len _ _
/-- The digest behind the first sides. -/
def foldK (d : List UInt8) : List Bool → List (List UInt8) → List UInt8
  | r :: l, s :: ds => foldK (fork1 d r s) l ds
  | _, _ => d
theorem foldK_len : ∀ (l : List Bool) (ds : List (List UInt8)) {d : List UInt8}, d.length = 32 → (foldK d l ds).length = 32
  | [], _, _, h => h
  | _ :: _, [], _, h => h
  | r :: l, s :: ds, d, h => by
    unfold foldK
    exact foldK_len l ds (fork1_len d r s)
theorem foldK_drop {l : List Bool} {ds : List (List UInt8)} {d : List UInt8} {k : Nat} {r : Bool} {s : List UInt8} (h1 : l[k]? = some r) (h2 : ds[k]? = some s) : foldK d (l.drop k) (ds.drop k) = foldK (fork1 d r s) (l.drop (k + 1)) (ds.drop (k + 1)) := by
  obtain ⟨l1, e1⟩ := List.getElem?_eq_some_iff.1 h1
  obtain ⟨l2, e2⟩ := List.getElem?_eq_some_iff.1 h2
  rw [List.drop_eq_getElem_cons l1, List.drop_eq_getElem_cons l2, e1, e2]
  rfl
/-- Whether sides fit a root. -/
def fitsT (R : List UInt8) (many i : Int) (row : List UInt8) (ds : List (List UInt8)) : Bool :=
  if many > 256 ∨ i < 0 ∨ i ≥ many ∨ 4096 < row.length then false
  else if (turnsL many.toNat i.toNat).length ≠ ds.length then false
  else decide (foldK (digOf 7 [row]) (turnsL many.toNat i.toNat).reverse ds = R)
theorem tagOne_any (A : Option Addr) (n c : Nat) (p : List UInt8) (w : World) (hr : Rd w 0 1 A n (p.map bv)) (hn : n ≤ 5000) (hK : KOk w) :
    Calls Tryd.prog 23 #[.int .u8 7, .slice (some ⟨w.heap.size, 0, none⟩) 1 1] (w.alloc (.cells #[.slice A n c] 24)) (GivesD (w.alloc (.cells #[.slice A n c] 24)) (digOf 7 [p])) :=
  tagOf_any 7 _ 1 1 [p] _ (Parts.one w 24 A n c p hr) (by omega) (fun q hq => by simp at hq; subst hq; have := hr.1; simp at this; omega) (hK.al _)
theorem tagTwo_any (A B : Option Addr) (n c m d : Nat) (p q : List UInt8) (w : World) (hr : Rd w 0 1 A n (p.map bv)) (hq : Rd w 0 1 B m (q.map bv)) (hn : n ≤ 5000) (hm : m ≤ 5000) (hK : KOk w) :
    Calls Tryd.prog 23 #[.int .u8 8, .slice (some ⟨w.heap.size, 0, none⟩) 2 2] (w.alloc (.cells #[.slice A n c, .slice B m d] 24)) (GivesD (w.alloc (.cells #[.slice A n c, .slice B m d] 24)) (digOf 8 [p, q])) :=
  tagOf_any 8 _ 2 2 [p, q] _ (Parts.two w 24 A B n m c d p q hr hq) (by omega) (fun x hx => by simp at hx; have h1 := hr.1; have h2 := hq.1; simp at h1 h2; rcases hx with rfl | rfl <;> omega) (hK.al _)

set_option maxRecDepth 100000 in
set_option maxHeartbeats 4000000 in
theorem fits_no (R : List UInt8) (hR : R.length = 32) (many i : Int) (A S : Option Addr) (n c m mc : Nat) (row : List UInt8) (ds : List (List UInt8)) (w : World) (hrow : Rd w 0 1 A n (row.map bv)) (hds : Digs w S m ds) (hn : n ≤ 5000) (hm : m ≤ 1000) (hK : KOk w) (h : many > 256 ∨ i < 0 ∨ i ≥ many ∨ (4096 : Int) < n) :
    Calls Tryd.prog 8 #[.agg (R.map bv).toArray, .int .i64 many, .int .i64 i, .slice A n c, .slice S m mc] w (GivesBo w false) := by
  clear hrow hds hK hm
  generalize hRA : (R.map bv).toArray = RA at *
  clear hRA
  have key : ∀ b, GivesBo w false (.returned (.bool b)) w → True := fun _ _ => trivial
  clear key
  by_cases t1 : many > 256
  · go_enter Tryd.func8, Tryd.ntmps8
    go_wp2_with (first
      | (refine wpList_bx rfl 23 _ rfl RA rfl ?_; intro w1 hB1 hb1 hy; have hz1 := hid hy; clear hy))
    go_ret
    exact ⟨rfl, hb1⟩
  by_cases t2 : i < 0
  · go_enter Tryd.func8, Tryd.ntmps8
    go_wp2_with (first
      | (refine wpList_bx rfl 23 _ rfl RA rfl ?_; intro w1 hB1 hb1 hy; have hz1 := hid hy; clear hy))
    go_ret
    exact ⟨rfl, hb1⟩
  by_cases t3 : i ≥ many
  · go_enter Tryd.func8, Tryd.ntmps8
    go_wp2_with (first
      | (refine wpList_bx rfl 23 _ rfl RA rfl ?_; intro w1 hB1 hb1 hy; have hz1 := hid hy; clear hy))
    go_ret
    exact ⟨rfl, hb1⟩
  have t4 : (n : Int) > 4096 := by omega
  clear h
  go_enter Tryd.func8, Tryd.ntmps8
  go_wp2_with (first
    | (refine wpList_bx rfl 23 _ rfl RA rfl ?_; intro w1 hB1 hb1 hy; have hz1 := hid hy; clear hy))
  go_ret
  exact ⟨rfl, hb1⟩

set_option maxRecDepth 100000 in
set_option maxHeartbeats 4000000 in
theorem fits_len (R : List UInt8) (hR : R.length = 32) (many i : Int) (A S : Option Addr) (n c m mc : Nat) (row : List UInt8) (ds : List (List UInt8)) (w : World) (hrow : Rd w 0 1 A n (row.map bv)) (hds : Digs w S m ds) (hn : n ≤ 5000) (hm : m ≤ 1000) (hK : KOk w) (t1 : ¬ many > 256) (t2 : ¬ i < 0) (t3 : ¬ i ≥ many) (t4 : ¬ (n : Int) > 4096) (T : List Bool) (hT : turnsL many.toNat i.toNat = T) (hLen : T.length ≠ ds.length) :
    Calls Tryd.prog 8 #[.agg (R.map bv).toArray, .int .i64 many, .int .i64 i, .slice A n c, .slice S m mc] w (GivesBo w false) := by
  obtain ⟨mn, rfl⟩ : ∃ mn : Nat, many = (mn : Int) := ⟨many.toNat, by omega⟩
  obtain ⟨iN, rfl⟩ : ∃ iN : Nat, i = (iN : Int) := ⟨i.toNat, by omega⟩
  have hTu := hid (fun W => turns_any mn iN W (by omega) (by omega) (by omega))
  unfold GivesT at hTu
  rw [Int.toNat_natCast, Int.toNat_natCast] at hT
  rw [hT] at hTu
  have HL := hid hLen
  have HDl := hid hds.len
  clear hrow hds hK hT hLen
  generalize hRA : (R.map bv).toArray = RA at *
  clear hRA
  go_enter Tryd.func8, Tryd.ntmps8
  go_upto_region 4 with (first
    | (refine wpList_bx rfl 23 _ rfl RA rfl ?_; intro w1 hB1 hb1 hy; have hz1 := hid hy; clear hy)
    | ((with_reducible refine (hTu.out _).mono ?_); rintro e w2 ⟨L, ln, lc, rfl, hL, hb2⟩; have hll := hid (show T.length = ln by have := hL.len; simpa using this)))
  have t5 : ¬ (ln : Int) = (m : Int) := by have := hll.out; have := HL.out; have := HDl.out; omega
  have t6 : ((ln : Int) == (m : Int)) = false := by simpa using t5
  have t7 : ((ln : Int) != (m : Int)) = true := by simpa using t5
  go_wp2_with fail
  go_ret
  exact ⟨rfl, below_chain hb1 hb2⟩

set_option maxRecDepth 100000 in
set_option maxHeartbeats 4000000 in
theorem fits_ok (R : List UInt8) (hR : R.length = 32) (many i : Int) (A S : Option Addr) (n c m mc : Nat) (row : List UInt8) (ds : List (List UInt8)) (w : World) (hrow : Rd w 0 1 A n (row.map bv)) (hds : Digs w S m ds) (hn : n ≤ 5000) (hm : m ≤ 1000) (hK : KOk w) (t1 : ¬ many > 256) (t2 : ¬ i < 0) (t3 : ¬ i ≥ many) (t4 : ¬ (n : Int) > 4096) (T : List Bool) (hT : turnsL many.toNat i.toNat = T) (hLen : T.length = ds.length) :
    Calls Tryd.prog 8 #[.agg (R.map bv).toArray, .int .i64 many, .int .i64 i, .slice A n c, .slice S m mc] w (GivesBo w (decide (foldK (digOf 7 [row]) T.reverse ds = R))) := by
  obtain ⟨mn, rfl⟩ : ∃ mn : Nat, many = (mn : Int) := ⟨many.toNat, by omega⟩
  obtain ⟨iN, rfl⟩ : ∃ iN : Nat, i = (iN : Int) := ⟨i.toNat, by omega⟩
  have hTu := hid (fun W => turns_any mn iN W (by omega) (by omega) (by omega))
  unfold GivesT at hTu
  rw [Int.toNat_natCast, Int.toNat_natCast] at hT
  rw [hT] at hTu
  have HL := hid hLen
  have HDl := hid hds.len
  have HR := hid hrow
  have HD := hid hds
  have HK := hid hK
  have hO7 := hid (fun W (h : Rd W 0 1 A n (row.map bv)) (k : KOk W) => tagOne_any A n c row W h (by omega) k)
  have hE := hid (fun (d : List UInt8) (hd : d.length = 32) W => run_eq_dig d R hd hR W)
  have hRs := digS R hR
  have hd7 := digOf_len 7 [row]
  have hs7 := digZ _ hd7
  have ho7 := hid (oneBv' (digOf 7 [row]))
  clear hrow hds hK hT hLen
  unfold GivesD at hO7
  generalize hd0 : digOf 7 [row] = d0 at *
  clear hd0
  go_enter Tryd.func8, Tryd.ntmps8
  go_upto_region 4 with (first
    | (refine wpList_bx rfl 23 _ rfl (R.map bv).toArray rfl ?_; intro w1 hB1 hb1 hy; have hz1 := hid hy; clear hy)
    | ((with_reducible refine (hTu.out _).mono ?_); rintro e w2 ⟨L, ln, lc, rfl, hL, hb2⟩; have hll := hid (show T.length = ln by have := hL.len; simpa using this)))
  have hlm : ln = m := by have := hll.out; have := HL.out; have := HDl.out; omega
  subst hlm
  have t6 : ((ln : Int) == (ln : Int)) = true := by simp
  have t7 : ((ln : Int) != (ln : Int)) = false := by simp
  have Y := hid (below_chain hb1 hb2)
  have X0 := hid (hB1.belowS hb2)
  have HLo := hid (show Rd w2 0 1 L ln (T.reverse.map Value.bool) from hL.rd.low (Nat.zero_le _))
  have l1 := hid X0.out.lt
  clear hB1 hb1 hb2 hL hz1
  generalize hg0 : w.heap.size = g0 at X0 l1 ⊢
  go_upto_region 7 with (first
    | ((with_reducible refine (hO7.out _ (HR.out.below Y.out) (HK.out.below Y.out)).mono ?_); rintro e w3 ⟨rfl, hb3'⟩; have hb3 := below_al hb3')
    | (refine wpList_al rfl 23 rfl zeroD (zeroD_run _) ?_; intro w4 hB4 hb4 hy; clear hy)
    | (refine wpList_str rfl 23 _ _ rfl w3.heap.size (d0.map bv).toArray rfl rfl _ zeroD hB4 hs7 zeroD_size ho7.out ?_; intro w5 hB5 hg5 hy; clear hy))
  have q35 : Below w3.heap.size w3 w5 := hb4.grown hg5 hb4.size (by intro k e; cases e; exact Nat.le_refl _)
  have Y3 := hid (below_chain Y.out hb3)
  have X03 := hid (X0.out.belowS hb3)
  have HL3 := hid (HLo.out.below hb3)
  have X12 := hid hB5
  have Q35 := hid q35
  clear hB4 hb4 hb3 hb3' hB5 hg5 q35 hs7 ho7 hO7 Y X0 HLo l1
  rw [← hg0] at X03
  rw [← hg0]
  clear hg0
  go_wp2_with fail
  go_loopw [45] (fun x wx => ∃ (k : Nat) (d : List UInt8), k ≤ ln ∧ x = .int .i64 k ∧ d.length = 32 ∧ foldK d (T.reverse.drop k) (ds.drop k) = foldK d0 T.reverse ds ∧ Blk wx w3.heap.size 23 (d.map bv).toArray ∧ Below w3.heap.size w3 wx) (fun x _ => ln - (intOf x).toNat)
  case atStart => exact ⟨0, d0, Nat.zero_le _, rfl, hd7, by simp, X12.out, Q35.out⟩
  case round =>
    clear X12 Q35
    obtain ⟨k, d, hk, rfl, hd, hF, hB12, hb⟩ := hrel
    have X12 := hid hB12
    have HB := hid hb
    have HF := hid hF
    have htz : (0 : Int) ≤ (k : Int) := by omega
    have hlnm : (ln : Int) ≤ 1000 := by omega
    clear hB12 hb hF
    have Y := hid (below_chain Y3.out HB.out)
    by_cases hlt : k < ln
    · have hltH := hid hlt
      have hti : (k : Int) < (ln : Int) := by omega
      have hsk : ds[k]? = some (ds[k]'(by have := HDl.out; omega)) := List.getElem?_eq_getElem _
      generalize ds[k]'(by have := HDl.out; omega) = sd at hsk
      have hrk : T.reverse[k]? = some (T.reverse[k]'(by have := hll.out; simp; omega)) := List.getElem?_eq_getElem _
      generalize T.reverse[k]'(by have := hll.out; simp; omega) = rt at hrk
      obtain ⟨lb, lo, hLe, _, hlc⟩ := (HL3.out.below HB.out).2 (by omega)
      have cb : wr.cell? ⟨lb, lo + k, none⟩ = some (.bool rt) := by rw [hlc k (by omega), List.getElem?_map, hrk]; rfl
      obtain ⟨b, o, hSe, _, hsd, _, hsr⟩ := (HD.out.below Y.out).at_ hsk
      have hstep := hid (foldK_drop (d := d) hrk hsk)
      have HF := hid (hstep.out.symm.trans HF.out)
      subst hLe hSe
      have hR12 := hid (X12.out.rdD hd)
      have HY := hid ((HK.out.below Y.out))
      have hdn := fork1_len d rt sd
      have hon := hid (oneBv' (fork1 d rt sd))
      have hzd := digS d hd
      have hsz := (digZ _ hdn).trans (digZ _ hd).symm
      obtain ⟨al, hal⟩ : ∃ al, lo + k = al := ⟨_, rfl⟩
      rw [hal] at cb
      obtain ⟨ad, had⟩ : ∃ ad, o + k * 32 = ad := ⟨_, rfl⟩
      rw [had] at hsr
      have HSd := hid hsr
      have hOf := hid (fun Q p q W (hp : p.length = 32) (hq : q.length = 32) (h : Parts W Q 2 [p, q]) (k : KOk W) => (show Calls Tryd.prog 23 #[.int .u8 8, .slice Q 2 2] W (GivesD W (digOf 8 [p, q])) from tagOf_any 8 Q 2 2 [p, q] W h (by omega) (fun x hx => by simp at hx; rcases hx with rfl | rfl <;> omega) k))
      unfold GivesD at hOf
      clear hsk hrk hlc hsr hstep
      cases rt
      · go_wp2_with fail
        refine wp_region_held_drew (S := (fun _ => True)) (by kernel_rfl) trivial (fun hHeld => ?_)
        refine reg_take (v := ?_) 0 rfl (by kernel_rfl) (by kernel_rfl) (by kernel_rfl) (fun _ _ _ h => h) (Or.inl ⟨by rfl, ?_⟩) (by assumption) ?_; rotate_left; (intro w hSw; (try dsimp only at hSw); go_simp); (try with_reducible rfl); (try simp only [Act.put, List.setIfInBounds_toArray, List.set_cons_zero, List.set_cons_succ])
        refine reg_take (v := ?_) 1 rfl (by kernel_rfl) (by kernel_rfl) (by kernel_rfl) (fun _ _ _ h => h) (Or.inl ⟨by rfl, ?_⟩) (by assumption) ?_; rotate_left; (intro w hSw; (try dsimp only at hSw); go_simp); (try with_reducible rfl); (try simp only [Act.put, List.setIfInBounds_toArray, List.set_cons_zero, List.set_cons_succ])
        refine reg_take (v := ?_) 2 rfl (by kernel_rfl) (by kernel_rfl) (by kernel_rfl) (fun _ _ _ h => h) (Or.inl ⟨by rfl, ?_⟩) (by assumption) ?_; rotate_left; (intro w hSw; (try dsimp only at hSw); go_simp); (try with_reducible rfl); (try simp only [Act.put, List.setIfInBounds_toArray, List.set_cons_zero, List.set_cons_succ])
        refine reg_take (v := ?_) 3 rfl (by kernel_rfl) (by kernel_rfl) (by kernel_rfl) (fun _ _ _ h => h) (Or.inl ⟨by rfl, ?_⟩) (by assumption) ?_; rotate_left; (intro w hSw; (try dsimp only at hSw); go_simp); (try with_reducible rfl); (try simp only [Act.put, List.setIfInBounds_toArray, List.set_cons_zero, List.set_cons_succ])
        refine reg_take (v := ?_) 4 rfl (by kernel_rfl) (by kernel_rfl) (by kernel_rfl) (fun _ _ _ h => h) (Or.inl ⟨by rfl, ?_⟩) (by assumption) ?_; rotate_left; (intro w hSw; (try dsimp only at hSw); go_simp); (try with_reducible rfl); (try simp only [Act.put, List.setIfInBounds_toArray, List.set_cons_zero, List.set_cons_succ])
        refine reg_only 5 rfl (by kernel_rfl) (fun K hK => ?_); go_simp; skip; refine hK.out _ _ ?_ (fun hHeld => ?_); (trivial); clear hK K; (try simp only [Act.put, List.setIfInBounds_toArray, List.set_cons_zero, List.set_cons_succ])
        refine reg_take (v := ?_) 6 rfl (by kernel_rfl) (by kernel_rfl) (by kernel_rfl) (fun _ _ _ h => h) (Or.inl ⟨by rfl, ?_⟩) (by assumption) ?_; rotate_left; (intro w hSw; (try dsimp only at hSw); go_simp); (try with_reducible rfl); (try simp only [Act.put, List.setIfInBounds_toArray, List.set_cons_zero, List.set_cons_succ])
        refine wpAnyH_done (by kernel_rfl) ?_ _
        have hPt := (Parts.two wr 24 _ _ 32 32 32 32 d sd hR12.out HSd.out).drew
        have hba : Below wr.heap.size wr (wr.alloc (.cells #[.slice (some ⟨w3.heap.size, 0, none⟩) 32 32, .slice (some ⟨b, ad, none⟩) 32 32] 24)).drew := below_drew1 (below_alloc1 _ _)
        have hK5 := HY.out.below hba
        have Z12 := hid (X12.out.belowS hba)
        have ZB := hid (below_chain HB.out hba)
        generalize (wr.alloc (.cells #[.slice (some ⟨w3.heap.size, 0, none⟩) 32 32, .slice (some ⟨b, ad, none⟩) 32 32] 24)).drew = wc at *
        go_wp2_with (first
          | ((with_reducible refine (hOf.out _ d sd wc hd hsd hPt hK5).mono ?_); rintro e v3 ⟨rfl, hb3⟩)
          | (refine wpList_str rfl 23 _ _ rfl w3.heap.size _ rfl rfl _ _ (Z12.out.belowS hb3) hsz hzd hon.out ?_; intro v5 hB5 hg5 hy; clear hy))
        exact ⟨⟨k + 1, _, by have := hltH.out; omega, by go_num, hdn, HF.out, hB5, below_set (below_chain ZB.out hb3) hg5 (Nat.le_refl _)⟩, by have := hltH.out; simp [intOf]; omega⟩
      · go_wp2_with fail
        refine wp_region_held_drew (S := (fun _ => True)) (by kernel_rfl) trivial (fun hHeld => ?_)
        refine reg_take (v := ?_) 0 rfl (by kernel_rfl) (by kernel_rfl) (by kernel_rfl) (fun _ _ _ h => h) (Or.inl ⟨by rfl, ?_⟩) (by assumption) ?_; rotate_left; (intro w hSw; (try dsimp only at hSw); go_simp); (try with_reducible rfl); (try simp only [Act.put, List.setIfInBounds_toArray, List.set_cons_zero, List.set_cons_succ])
        refine reg_take (v := ?_) 1 rfl (by kernel_rfl) (by kernel_rfl) (by kernel_rfl) (fun _ _ _ h => h) (Or.inl ⟨by rfl, ?_⟩) (by assumption) ?_; rotate_left; (intro w hSw; (try dsimp only at hSw); go_simp); (try with_reducible rfl); (try simp only [Act.put, List.setIfInBounds_toArray, List.set_cons_zero, List.set_cons_succ])
        refine reg_take (v := ?_) 2 rfl (by kernel_rfl) (by kernel_rfl) (by kernel_rfl) (fun _ _ _ h => h) (Or.inl ⟨by rfl, ?_⟩) (by assumption) ?_; rotate_left; (intro w hSw; (try dsimp only at hSw); go_simp); (try with_reducible rfl); (try simp only [Act.put, List.setIfInBounds_toArray, List.set_cons_zero, List.set_cons_succ])
        refine reg_take (v := ?_) 3 rfl (by kernel_rfl) (by kernel_rfl) (by kernel_rfl) (fun _ _ _ h => h) (Or.inl ⟨by rfl, ?_⟩) (by assumption) ?_; rotate_left; (intro w hSw; (try dsimp only at hSw); go_simp); (try with_reducible rfl); (try simp only [Act.put, List.setIfInBounds_toArray, List.set_cons_zero, List.set_cons_succ])
        refine reg_take (v := ?_) 4 rfl (by kernel_rfl) (by kernel_rfl) (by kernel_rfl) (fun _ _ _ h => h) (Or.inl ⟨by rfl, ?_⟩) (by assumption) ?_; rotate_left; (intro w hSw; (try dsimp only at hSw); go_simp); (try with_reducible rfl); (try simp only [Act.put, List.setIfInBounds_toArray, List.set_cons_zero, List.set_cons_succ])
        refine reg_only 5 rfl (by kernel_rfl) (fun K hK => ?_); go_simp; skip; refine hK.out _ _ ?_ (fun hHeld => ?_); (trivial); clear hK K; (try simp only [Act.put, List.setIfInBounds_toArray, List.set_cons_zero, List.set_cons_succ])
        refine reg_take (v := ?_) 6 rfl (by kernel_rfl) (by kernel_rfl) (by kernel_rfl) (fun _ _ _ h => h) (Or.inl ⟨by rfl, ?_⟩) (by assumption) ?_; rotate_left; (intro w hSw; (try dsimp only at hSw); go_simp); (try with_reducible rfl); (try simp only [Act.put, List.setIfInBounds_toArray, List.set_cons_zero, List.set_cons_succ])
        refine wpAnyH_done (by kernel_rfl) ?_ _
        have hbb : Below wr.heap.size wr (wr.alloc (.cells #[.slice (some ⟨w3.heap.size, 0, none⟩) 32 32, .slice (some ⟨b, ad, none⟩) 32 32] 24)).drew := below_drew1 (below_alloc1 _ _)
        have hR12 := hid (hR12.out.below hbb)
        have HSd := hid (HSd.out.below hbb)
        generalize (wr.alloc (.cells #[.slice (some ⟨w3.heap.size, 0, none⟩) 32 32, .slice (some ⟨b, ad, none⟩) 32 32] 24)).drew = wb at *
        go_wp2_with fail
        refine wp_region_held_drew (S := (fun _ => True)) (by kernel_rfl) trivial (fun hHeld => ?_)
        refine reg_take (v := ?_) 0 rfl (by kernel_rfl) (by kernel_rfl) (by kernel_rfl) (fun _ _ _ h => h) (Or.inl ⟨by rfl, ?_⟩) (by assumption) ?_; rotate_left; (intro w hSw; (try dsimp only at hSw); go_simp); (try with_reducible rfl); (try simp only [Act.put, List.setIfInBounds_toArray, List.set_cons_zero, List.set_cons_succ])
        refine reg_take (v := ?_) 1 rfl (by kernel_rfl) (by kernel_rfl) (by kernel_rfl) (fun _ _ _ h => h) (Or.inl ⟨by rfl, ?_⟩) (by assumption) ?_; rotate_left; (intro w hSw; (try dsimp only at hSw); go_simp); (try with_reducible rfl); (try simp only [Act.put, List.setIfInBounds_toArray, List.set_cons_zero, List.set_cons_succ])
        refine reg_take (v := ?_) 2 rfl (by kernel_rfl) (by kernel_rfl) (by kernel_rfl) (fun _ _ _ h => h) (Or.inl ⟨by rfl, ?_⟩) (by assumption) ?_; rotate_left; (intro w hSw; (try dsimp only at hSw); go_simp); (try with_reducible rfl); (try simp only [Act.put, List.setIfInBounds_toArray, List.set_cons_zero, List.set_cons_succ])
        refine reg_take (v := ?_) 3 rfl (by kernel_rfl) (by kernel_rfl) (by kernel_rfl) (fun _ _ _ h => h) (Or.inl ⟨by rfl, ?_⟩) (by assumption) ?_; rotate_left; (intro w hSw; (try dsimp only at hSw); go_simp); (try with_reducible rfl); (try simp only [Act.put, List.setIfInBounds_toArray, List.set_cons_zero, List.set_cons_succ])
        refine reg_take (v := ?_) 4 rfl (by kernel_rfl) (by kernel_rfl) (by kernel_rfl) (fun _ _ _ h => h) (Or.inl ⟨by rfl, ?_⟩) (by assumption) ?_; rotate_left; (intro w hSw; (try dsimp only at hSw); go_simp); (try with_reducible rfl); (try simp only [Act.put, List.setIfInBounds_toArray, List.set_cons_zero, List.set_cons_succ])
        refine reg_only 5 rfl (by kernel_rfl) (fun K hK => ?_); go_simp; skip; refine hK.out _ _ ?_ (fun hHeld => ?_); (trivial); clear hK K; (try simp only [Act.put, List.setIfInBounds_toArray, List.set_cons_zero, List.set_cons_succ])
        refine reg_take (v := ?_) 6 rfl (by kernel_rfl) (by kernel_rfl) (by kernel_rfl) (fun _ _ _ h => h) (Or.inl ⟨by rfl, ?_⟩) (by assumption) ?_; rotate_left; (intro w hSw; (try dsimp only at hSw); go_simp); (try with_reducible rfl); (try simp only [Act.put, List.setIfInBounds_toArray, List.set_cons_zero, List.set_cons_succ])
        refine wpAnyH_done (by kernel_rfl) ?_ _
        have hPt := (Parts.two wb 24 _ _ 32 32 32 32 sd d HSd.out hR12.out).drew
        have hba : Below wr.heap.size wr (wb.alloc (.cells #[.slice (some ⟨b, ad, none⟩) 32 32, .slice (some ⟨w3.heap.size, 0, none⟩) 32 32] 24)).drew := below_chain hbb (below_drew1 (below_alloc1 _ _))
        have hK5 := HY.out.below hba
        have Z12 := hid (X12.out.belowS hba)
        have ZB := hid (below_chain HB.out hba)
        generalize (wb.alloc (.cells #[.slice (some ⟨b, ad, none⟩) 32 32, .slice (some ⟨w3.heap.size, 0, none⟩) 32 32] 24)).drew = wc at *
        go_wp2_with (first
          | ((with_reducible refine (hOf.out _ sd d wc hsd hd hPt hK5).mono ?_); rintro e v3 ⟨rfl, hb3⟩)
          | (refine wpList_str rfl 23 _ _ rfl w3.heap.size _ rfl rfl _ _ (Z12.out.belowS hb3) hsz hzd hon.out ?_; intro v5 hB5 hg5 hy; clear hy))
        exact ⟨⟨k + 1, _, by have := hltH.out; omega, by go_num, hdn, HF.out, hB5, below_set (below_chain ZB.out hb3) hg5 (Nat.le_refl _)⟩, by have := hltH.out; simp [intOf]; omega⟩
    · obtain rfl : k = ln := by omega
      have hti : ¬ (k : Int) < (k : Int) := by omega
      have hEd := hE.out d hd
      have hDr := digS d hd
      have hfin : d = foldK d0 T.reverse ds := by
        have := HF.out
        rw [List.drop_of_length_le (by have := hll.out; simp; omega), List.drop_of_length_le (by have := HDl.out; omega)] at this
        exact this
      have X0 := hid (X03.out.belowS HB.out)
      have HFin := hid hfin
      clear hfin HF
      generalize hDA : (d.map bv).toArray = DA at *
      generalize hRA : (R.map bv).toArray = RA at *
      go_wp2_with (first
        | ((with_reducible refine at_load (d := some 66) 23 ?_); refine wpList_ldr rfl 23 _ rfl w3.heap.size rfl _ DA _ X12.out Tryd.underlying23 rfl hDr ?_)
        | ((with_reducible refine at_load (d := some 67) 23 ?_); refine wpList_ldr rfl 23 _ rfl w.heap.size rfl _ RA _ X0.out Tryd.underlying23 rfl hRs ?_))
      go_ret
      refine ⟨?_, Y.out⟩
      rw [← HFin.out]
      rfl

theorem fits_any (R : List UInt8) (hR : R.length = 32) (many i : Int) (A S : Option Addr) (n c m mc : Nat) (row : List UInt8) (ds : List (List UInt8)) (w : World) (hrow : Rd w 0 1 A n (row.map bv)) (hds : Digs w S m ds) (hn : n ≤ 5000) (hm : m ≤ 1000) (hK : KOk w) :
    Calls Tryd.prog 8 #[.agg (R.map bv).toArray, .int .i64 many, .int .i64 i, .slice A n c, .slice S m mc] w (GivesBo w (fitsT R many i row ds)) := by
  have hrl : row.length = n := by simpa using hrow.1
  unfold fitsT
  by_cases h : many > 256 ∨ i < 0 ∨ i ≥ many ∨ 4096 < row.length
  · rw [if_pos h]
    exact fits_no R hR many i A S n c m mc row ds w hrow hds hn hm hK (by omega)
  · rw [if_neg h]
    by_cases hl : (turnsL many.toNat i.toNat).length ≠ ds.length
    · rw [if_pos hl]
      exact fits_len R hR many i A S n c m mc row ds w hrow hds hn hm hK (by omega) (by omega) (by omega) (by omega) _ rfl hl
    · rw [if_neg hl]
      exact fits_ok R hR many i A S n c m mc row ds w hrow hds hn hm hK (by omega) (by omega) (by omega) (by omega) _ rfl (by omega)
end Go.Proofs.YtheljogmnalbmaaDoor
