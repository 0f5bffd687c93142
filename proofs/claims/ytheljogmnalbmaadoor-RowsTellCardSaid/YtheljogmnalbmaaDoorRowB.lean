/-
  Contracts of tag.Of, tag.None and of the reference's Of, One, Two, None. The table k stands in its variable.
-/
import Derived.Test.YtheljogmnalbmaaDoorRowA
namespace Go.Proofs.YtheljogmnalbmaaDoor
open Go.RowKit
set_option linter.unusedSimpArgs false
set_option linter.unusedVariables false

section
variable {P : Program}
/-- Results: a variable's row. -/
theorem results_c {fn : Func} {p : Tmp} {ty : TypeId} (h : fn.results = #[.cell p ty]) (tmps : Array Value) (w : World) (g : Nat) (cs : Array Value) (d1 : TypeDesc)
    (hp : tmps.getD p undef = .pointer (some ⟨g, 0, none⟩)) (hg : Blk w g ty cs) (hu : P.underlying ty = some d1) (h1 : (match d1 with | .struct _ | .array _ _ => true | _ => false) = true) (hi : (P.info? ty).map (·.size) = some cs.size) :
    (results fn tmps).run P w = .ok (.agg cs) w := by
  have e1 : tmps[p]?.getD undef = .pointer (some ⟨g, 0, none⟩) := by simpa using hp
  simp [results, h, e1, asAddr, run_loadVar_row w g ty ty cs (0, 0) d1 hg hu h1 hi]
/-- Results: a variable's row, a slot. -/
theorem results_cs {fn : Func} {p t : Tmp} {ty : TypeId} (h : fn.results = #[.cell p ty, .tmp t]) (tmps : Array Value) (w : World) (g : Nat) (cs : Array Value) (d1 : TypeDesc)
    (hp : tmps.getD p undef = .pointer (some ⟨g, 0, none⟩)) (hg : Blk w g ty cs) (hu : P.underlying ty = some d1) (h1 : (match d1 with | .struct _ | .array _ _ => true | _ => false) = true) (hi : (P.info? ty).map (·.size) = some cs.size) :
    (results fn tmps).run P w = .ok (.tuple #[.agg cs, tmps.getD t undef]) w := by
  have e1 : tmps[p]?.getD undef = .pointer (some ⟨g, 0, none⟩) := by simpa using hp
  simp [results, h, e1, asAddr, run_loadVar_row w g ty ty cs (0, 0) d1 hg hu h1 hi]
end
theorem Parts.lit (w : World) (e : TypeId) (vs : List Value) (pss : List (List UInt8)) (hl : pss.length = vs.length) (h : ∀ i, i < vs.length → ∃ A n c, vs[i]? = some (.slice A n c) ∧ Rd w 0 1 A n ((pss.getD i []).map bv)) :
    Parts (w.alloc (.cells vs.toArray e)) (some ⟨w.heap.size, 0, none⟩) vs.length pss :=
  ⟨hl, fun i hi => by
    obtain ⟨A, n, c, hv, hr⟩ := h i hi
    refine ⟨w.heap.size, 0, A, n, c, rfl, by simp, ?_, hr.alloc _⟩
    rw [Nat.zero_add, cell_of_row _ _ _ _ _ _ (heap_alloc_new w _), List.getElem?_toArray, hv]⟩
theorem Parts.drew {w : World} {P : Option Addr} {np : Nat} {pss : List (List UInt8)} (h : Parts w P np pss) : Parts w.drew P np pss := h
theorem Parts.two (w : World) (e : TypeId) (A B : Option Addr) (n m c d : Nat) (xs ys : List UInt8) (h1 : Rd w 0 1 A n (xs.map bv)) (h2 : Rd w 0 1 B m (ys.map bv)) :
    Parts (w.alloc (.cells #[.slice A n c, .slice B m d] e)) (some ⟨w.heap.size, 0, none⟩) 2 [xs, ys] :=
  Parts.lit w e [.slice A n c, .slice B m d] [xs, ys] rfl fun i hi => by
    match i, hi with
    | 0, _ => exact ⟨A, n, c, rfl, h1⟩
    | 1, _ => exact ⟨B, m, d, rfl, h2⟩
theorem Parts.one (w : World) (e : TypeId) (A : Option Addr) (n c : Nat) (xs : List UInt8) (h1 : Rd w 0 1 A n (xs.map bv)) :
    Parts (w.alloc (.cells #[.slice A n c] e)) (some ⟨w.heap.size, 0, none⟩) 1 [xs] :=
  Parts.lit w e [.slice A n c] [xs] rfl fun i hi => by
    match i, hi with
    | 0, _ => exact ⟨A, n, c, rfl, h1⟩
theorem Parts.none (w : World) (P : Option Addr) : Parts w P 0 [] := ⟨rfl, fun i hi => by omega⟩
theorem zeroD_size : (Tryd.prog.info? 23).map (·.size) = some zeroD.size := by kernel_rfl
theorem digS (l : List UInt8) (h : l.length = 32) : (Tryd.prog.info? 23).map (·.size) = some ((l.map bv).toArray).size := by
  rw [show ((l.map bv).toArray).size = 32 by simp [h]]
  kernel_rfl
theorem digZ (l : List UInt8) (h : l.length = 32) : ((l.map bv).toArray).size = zeroD.size := by simp [h]; rfl
theorem oneBv' (l : List UInt8) : ∀ v ∈ (l.map bv).toArray, v.oneCell' = true := fun v hv => bv_one _ v (by simpa using hv)
theorem KOk.al {w : World} (h : KOk w) (o : Obj) : KOk (w.alloc o) := h.below (below_alloc1 w o)
/-- The digest of a kind and parts. -/
def digOf (kind : UInt8) (pss : List (List UInt8)) : List UInt8 := shaOf (tagB kind pss)
theorem digOf_len (kind : UInt8) (pss : List (List UInt8)) : (digOf kind pss).length = 32 := shaOf_len _
/-- One result: a digest. -/
def GivesD (w : World) (ds : List UInt8) (e : Ending) (w' : World) : Prop := e = .returned (.agg (ds.map bv).toArray) ∧ Below w.heap.size w w'

set_option maxHeartbeats 1000000 in
theorem tagOf_any (kind : UInt8) (P : Option Addr) (np pc : Nat) (pss : List (List UInt8)) (w : World) (hP : Parts w P np pss) (hnp : np ≤ 8) (hl : ∀ p ∈ pss, p.length ≤ 5000) (hK : KOk w) :
    Calls Tryd.prog 23 #[.int .u8 (kind.toNat : Int), .slice P np pc] w (GivesD w (digOf kind pss)) := by
  have HP := hid hP
  have HK := hid hK
  have hBy := hid (fun W (h : Parts W P np pss) => tagBytes_any kind P np pc pss W h (by omega) hl)
  have htl : (tagB kind pss).length ≤ 50000 := by have := tagB_len kind pss hl; have := hP.1; omega
  have hfl : ([tagB kind pss] : List (List UInt8)).flatten = tagB kind pss := by simp
  have hSh := hid (fun Q W (h : Parts W Q 1 [tagB kind pss]) (k : KOk W) => of_any Q 1 1 [tagB kind pss] (tagB kind pss) hfl _ rfl W h (by omega) (by omega) k)
  unfold GivesBs at hBy
  clear hP hK hl htl hfl
  have hsz := digZ _ (digOf_len kind pss)
  have hzC := digS _ (digOf_len kind pss)
  have hone := hid (oneBv' (digOf kind pss))
  unfold GivesD
  unfold digOf at *
  generalize hC : ((shaOf (tagB kind pss)).map bv).toArray = C at *
  clear hC
  go_enter Tryd.func23, Tryd.ntmps23
  go_wp2_with (first
    | (refine wpList_al rfl 23 rfl zeroD (zeroD_run _) ?_; intro w1 hB1 hb1 hy; clear hy)
    | ((with_reducible refine (hBy.out _ (HP.out.below hb1)).mono ?_); rintro e w2 ⟨A, n, c, rfl, hO, hb2⟩; have hb12 := below_chain hb1 hb2; have hPt := Parts.one w2 24 A n c (tagB kind pss) (hO.rd.low (Nat.zero_le _)); have hK2 := (HK.out.below hb12).al (.cells #[.slice A n c] 24); have hba := below_alloc1 w2 (.cells #[.slice A n c] 24))
    | ((with_reducible refine (hSh.out _ _ hPt hK2).mono ?_); rintro e w3 ⟨rfl, hb3⟩; have hb23 := below_al hb3; have X3 := (hB1.belowS hb2).belowS hb23; have Y3 := below_chain hb12 hb23)
    | (refine wpList_str rfl 23 _ _ rfl w.heap.size C rfl rfl _ zeroD X3 hsz zeroD_size hone.out ?_; intro w4 hB4 hg4 hy; clear hy))
  have hbf := below_set Y3 hg4 (Nat.le_refl _)
  have hres := results_c (P := Tryd.prog) (fn := Tryd.f23) (p := 4) rfl
  exact bodyPost_ret (hres _ _ w.heap.size _ _ rfl hB4 Tryd.underlying23 rfl hzC) rfl ⟨rfl, hbf⟩

set_option maxHeartbeats 1000000 in
theorem tagNone_any (w : World) (hK : KOk w) :
    Calls Tryd.prog 25 #[] w (GivesD w (digOf 0 [])) := by
  have HK := hid hK
  have hOf := hid (fun W (k : KOk W) => (show Calls Tryd.prog 23 #[.int .u8 0, .slice none 0 0] W (GivesD W (digOf 0 [])) from tagOf_any 0 none 0 0 [] W (Parts.none _ _) (by omega) (fun p hp => by cases hp) k))
  unfold GivesD at hOf
  clear hK
  have hsz := digZ _ (digOf_len 0 [])
  have hzC := digS _ (digOf_len 0 [])
  have hone := hid (oneBv' (digOf 0 []))
  unfold GivesD
  unfold digOf at *
  generalize hC : ((shaOf (tagB 0 [])).map bv).toArray = C at *
  clear hC
  go_enter Tryd.func25, Tryd.ntmps25
  go_wp2_with (first
    | (refine wpList_al rfl 23 rfl zeroD (zeroD_run _) ?_; intro w1 hB1 hb1 hy; clear hy)
    | ((with_reducible refine (hOf.out _ (HK.out.below hb1)).mono ?_); rintro e w3 ⟨rfl, hb3⟩; have X3 := hB1.belowS hb3; have Y3 := below_chain hb1 hb3)
    | (refine wpList_str rfl 23 _ _ rfl w.heap.size C rfl rfl _ zeroD X3 hsz zeroD_size hone.out ?_; intro w4 hB4 hg4 hy; clear hy))
  have hbf := below_set Y3 hg4 (Nat.le_refl _)
  have hres := results_c (P := Tryd.prog) (fn := Tryd.f25) (p := 0) rfl
  exact bodyPost_ret (hres _ _ w.heap.size _ _ rfl hB4 Tryd.underlying23 rfl hzC) rfl ⟨rfl, hbf⟩

set_option maxHeartbeats 1000000 in
theorem refOf_any (kind : UInt8) (P : Option Addr) (np pc : Nat) (pss : List (List UInt8)) (w : World) (hP : Parts w P np pss) (hnp : np ≤ 8) (hl : ∀ p ∈ pss, p.length ≤ 5000) :
    Calls Tryd.prog 47 #[.int .u8 (kind.toNat : Int), .slice P np pc] w (GivesD w (digOf kind pss)) := by
  have HP := hid hP
  have hBy := hid (fun W (h : Parts W P np pss) => refBytes_any kind P np pc pss W h (by omega) hl)
  have htl : (tagB kind pss).length ≤ 50000 := by have := tagB_len kind pss hl; have := hP.1; omega
  have hSu := hid (fun A n c W (h : Rd W 0 1 A n ((tagB kind pss).map bv)) => sum_any A n c 0 (tagB kind pss) W h (by have := h.1; simp at this; omega))
  unfold GivesBs at hBy
  clear hP hl htl
  have hsz := digZ _ (digOf_len kind pss)
  have hzC := digS _ (digOf_len kind pss)
  have hone := hid (oneBv' (digOf kind pss))
  unfold GivesD
  unfold digOf at *
  generalize hC : ((shaOf (tagB kind pss)).map bv).toArray = C at *
  clear hC
  go_enter Tryd.func47, Tryd.ntmps47
  go_wp2_with (first
    | (refine wpList_al rfl 23 rfl zeroD (zeroD_run _) ?_; intro w1 hB1 hb1 hy; clear hy)
    | ((with_reducible refine (hBy.out _ (HP.out.below hb1)).mono ?_); rintro e w2 ⟨A, n, c, rfl, hO, hb2⟩; have hR := hO.rd.low (Nat.zero_le _))
    | ((with_reducible refine (hSu.out _ _ _ _ hR).mono ?_); rintro e w3 ⟨rfl, hb3⟩; have X3 := (hB1.belowS hb2).belowS hb3; have Y3 := below_chain (below_chain hb1 hb2) hb3)
    | (refine wpList_str rfl 23 _ _ rfl w.heap.size C rfl rfl _ zeroD X3 hsz zeroD_size hone.out ?_; intro w4 hB4 hg4 hy; clear hy))
  have hbf := below_set Y3 hg4 (Nat.le_refl _)
  have hres := results_c (P := Tryd.prog) (fn := Tryd.f47) (p := 4) rfl
  exact bodyPost_ret (hres _ _ w.heap.size _ _ rfl hB4 Tryd.underlying23 rfl hzC) rfl ⟨rfl, hbf⟩

set_option maxHeartbeats 1000000 in
theorem refOne_any (kind : UInt8) (A : Option Addr) (n c : Nat) (p : List UInt8) (w : World) (hr : Rd w 0 1 A n (p.map bv)) (hn : n ≤ 5000) :
    Calls Tryd.prog 37 #[.int .u8 (kind.toNat : Int), .slice A n c] w (GivesD w (digOf kind [p])) := by
  have HR := hid hr
  have hpl : p.length = n := by simpa using hr.1
  have hOf := hid (fun Q W (h : Parts W Q 1 [p]) => refOf_any kind Q 1 1 [p] W h (by omega) (fun q hq => by simp at hq; subst hq; omega))
  unfold GivesD at hOf
  clear hr hpl
  have hsz := digZ _ (digOf_len kind [p])
  have hzC := digS _ (digOf_len kind [p])
  have hone := hid (oneBv' (digOf kind [p]))
  unfold GivesD
  unfold digOf at *
  generalize hC : ((shaOf (tagB kind [p])).map bv).toArray = C at *
  clear hC
  go_enter Tryd.func37, Tryd.ntmps37
  go_wp2_with (first
    | (refine wpList_al rfl 23 rfl zeroD (zeroD_run _) ?_; intro w1 hB1 hb1 hy; clear hy)
    | ((with_reducible refine (hOf.out _ _ (Parts.one w1 24 A n c p (HR.out.below hb1))).mono ?_); rintro e w3 ⟨rfl, hb3'⟩; have hb3 := below_al hb3'; have X3 := hB1.belowS hb3; have Y3 := below_chain hb1 hb3)
    | (refine wpList_str rfl 23 _ _ rfl w.heap.size C rfl rfl _ zeroD X3 hsz zeroD_size hone.out ?_; intro w4 hB4 hg4 hy; clear hy))
  have hbf := below_set Y3 hg4 (Nat.le_refl _)
  have hres := results_c (P := Tryd.prog) (fn := Tryd.f37) (p := 4) rfl
  exact bodyPost_ret (hres _ _ w.heap.size _ _ rfl hB4 Tryd.underlying23 rfl hzC) rfl ⟨rfl, hbf⟩

set_option maxHeartbeats 1000000 in
theorem refTwo_any (kind : UInt8) (A B : Option Addr) (n c m d : Nat) (p q : List UInt8) (w : World) (hr : Rd w 0 1 A n (p.map bv)) (hq : Rd w 0 1 B m (q.map bv)) (hn : n ≤ 5000) (hm : m ≤ 5000) :
    Calls Tryd.prog 39 #[.int .u8 (kind.toNat : Int), .slice A n c, .slice B m d] w (GivesD w (digOf kind [p, q])) := by
  have HR := hid hr
  have HQ := hid hq
  have hpl : p.length = n := by simpa using hr.1
  have hql : q.length = m := by simpa using hq.1
  have hOf := hid (fun Q W (h : Parts W Q 2 [p, q]) => refOf_any kind Q 2 2 [p, q] W h (by omega) (fun x hx => by simp at hx; rcases hx with rfl | rfl <;> omega))
  unfold GivesD at hOf
  clear hr hq hpl hql
  have hsz := digZ _ (digOf_len kind [p, q])
  have hzC := digS _ (digOf_len kind [p, q])
  have hone := hid (oneBv' (digOf kind [p, q]))
  unfold GivesD
  unfold digOf at *
  generalize hC : ((shaOf (tagB kind [p, q])).map bv).toArray = C at *
  clear hC
  go_enter Tryd.func39, Tryd.ntmps39
  go_wp2_with (first
    | (refine wpList_al rfl 23 rfl zeroD (zeroD_run _) ?_; intro w1 hB1 hb1 hy; clear hy)
    | ((with_reducible refine (hOf.out _ _ (Parts.two w1 24 A B n m c d p q (HR.out.below hb1) (HQ.out.below hb1))).mono ?_); rintro e w3 ⟨rfl, hb3'⟩; have hb3 := below_al hb3'; have X3 := hB1.belowS hb3; have Y3 := below_chain hb1 hb3)
    | (refine wpList_str rfl 23 _ _ rfl w.heap.size C rfl rfl _ zeroD X3 hsz zeroD_size hone.out ?_; intro w4 hB4 hg4 hy; clear hy))
  have hbf := below_set Y3 hg4 (Nat.le_refl _)
  have hres := results_c (P := Tryd.prog) (fn := Tryd.f39) (p := 6) rfl
  exact bodyPost_ret (hres _ _ w.heap.size _ _ rfl hB4 Tryd.underlying23 rfl hzC) rfl ⟨rfl, hbf⟩

set_option maxHeartbeats 1000000 in
theorem refNone_any (w : World) :
    Calls Tryd.prog 43 #[] w (GivesD w (digOf 0 [])) := by
  have hOf := hid (fun W => (show Calls Tryd.prog 47 #[.int .u8 0, .slice none 0 0] W (GivesD W (digOf 0 [])) from refOf_any 0 none 0 0 [] W (Parts.none _ _) (by omega) (fun p hp => by cases hp)))
  unfold GivesD at hOf
  have hsz := digZ _ (digOf_len 0 [])
  have hzC := digS _ (digOf_len 0 [])
  have hone := hid (oneBv' (digOf 0 []))
  unfold GivesD
  unfold digOf at *
  generalize hC : ((shaOf (tagB 0 [])).map bv).toArray = C at *
  clear hC
  go_enter Tryd.func43, Tryd.ntmps43
  go_wp2_with (first
    | (refine wpList_al rfl 23 rfl zeroD (zeroD_run _) ?_; intro w1 hB1 hb1 hy; clear hy)
    | ((with_reducible refine (hOf.out _).mono ?_); rintro e w3 ⟨rfl, hb3⟩; have X3 := hB1.belowS hb3; have Y3 := below_chain hb1 hb3)
    | (refine wpList_str rfl 23 _ _ rfl w.heap.size C rfl rfl _ zeroD X3 hsz zeroD_size hone.out ?_; intro w4 hB4 hg4 hy; clear hy))
  have hbf := below_set Y3 hg4 (Nat.le_refl _)
  have hres := results_c (P := Tryd.prog) (fn := Tryd.f43) (p := 0) rfl
  exact bodyPost_ret (hres _ _ w.heap.size _ _ rfl hB4 Tryd.underlying23 rfl hzC) rfl ⟨rfl, hbf⟩
end Go.Proofs.YtheljogmnalbmaaDoor
