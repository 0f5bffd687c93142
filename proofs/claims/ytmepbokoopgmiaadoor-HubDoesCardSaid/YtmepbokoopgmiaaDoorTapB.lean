/-
  Contract of tap.Check: whether a tap may be. The gap stands in its variable.
-/
import Derived.Test.YtmepbokoopgmiaaDoorTapA
import Derived.Deep.Cut
namespace Go.Proofs.YtmepbokoopgmiaaDoor
open Go.RowKit

section
variable {P : Program} {ops : Array Oper} {Q : Exit → Act → World → Prop} {rest : List Oper} {a : Act} {w : World} {o : Oper}
/-- Guards for the walk's arms: the operation at hand, by its form alone (used under with_reducible). -/
theorem at_load {d : Option Tmp} {x : Operand} {ty : TypeId} {pos : String} {af : Array Edge} {g : Option (Nat × Bool)} (t : TypeId) (h : wpList P ops Q ({ dst := d, op := .load t x, type := ty, pos := pos, after := af, guard := g } :: rest) a w) : wpList P ops Q ({ dst := d, op := .load t x, type := ty, pos := pos, after := af, guard := g } :: rest) a w := h
theorem at_store {d : Option Tmp} {x y : Operand} {ty : TypeId} {pos : String} {af : Array Edge} {g : Option (Nat × Bool)} (t : TypeId) (h : wpList P ops Q ({ dst := d, op := .store t x y, type := ty, pos := pos, after := af, guard := g } :: rest) a w) : wpList P ops Q ({ dst := d, op := .store t x y, type := ty, pos := pos, after := af, guard := g } :: rest) a w := h
theorem at_alloc {d : Option Tmp} {ty : TypeId} {pos : String} {af : Array Edge} {g : Option (Nat × Bool)} (t : TypeId) (h : wpList P ops Q ({ dst := d, op := .alloc t, type := ty, pos := pos, after := af, guard := g } :: rest) a w) : wpList P ops Q ({ dst := d, op := .alloc t, type := ty, pos := pos, after := af, guard := g } :: rest) a w := h
end
section
variable {P : Program}
/-- A whole array read, at a guarded operation. -/
theorem wpList_ldr_g {ops : Array Oper} {rest : List Oper} {o : Oper} {a : Act} {w : World} {Q : Exit → Act → World → Prop} (hgd : Region.wanted o (yielded ops a.tmps) = true) (ty : TypeId) (x : Operand) (ho : o.op = .load ty x)
    (g : Nat) (hx : a.eval x = .pointer (some ⟨g, 0, none⟩)) (t : TypeId) (cs : Array Value) (d : TypeDesc) (hg : Blk w g t cs)
    (hu : P.underlying ty = some d) (hd : (match d with | .struct _ | .array _ _ => true | _ => false) = true) (hi : (P.info? ty).map (·.size) = some cs.size)
    (h : wpList P ops Q rest (a.put o.dst (.agg cs)) w) : wpList P ops Q (o :: rest) a w := by
  refine wpList_step fun K hK => ?_
  rw [if_pos hgd]
  exact wp_load_row ty x ho g hx t cs (0, 0) d hg hu hd hi (hK _ _ h)
end
theorem range_below {w w' : World} {b o : Nat} {cs : List Value} (h : w.rangeAt b o cs) (hb : Below w.heap.size w w') : w'.rangeAt b o cs := fun j v hv => by
  have h1 := h j v hv
  rw [← h1]
  exact World.cell?_of_block (hb.block b (World.block_lt_of_cell? w _ h1))
theorem range_belowB {B : Nat} {w w' : World} {b o : Nat} {cs : List Value} (h : w.rangeAt b o cs) (hb : Below B w w') (hB : b < B) : w'.rangeAt b o cs := fun j v hv => by
  rw [← h j v hv]
  exact World.cell?_of_block (hb.block b hB)
/-- The gap stands in its variable. -/
def GOk (w : World) : Prop := w.rangeAt 0 0 (itL gapIt)
theorem GOk.lt {w : World} (h : GOk w) : 0 < w.heap.size := World.block_lt_of_cell? w _ (h 0 (.bool true) rfl)
theorem GOk.below {w w' : World} (h : GOk w) (hb : Below w.heap.size w w') : GOk w' := range_below h hb
def zeroI : Array Value := (itL zeroIt).toArray
theorem zeroI_run (w : World) : (zeroValue 36).run Tryd.prog w = .ok (.agg zeroI) w := by kernel_rfl
theorem zeroI_build (w : World) : (Instr.build 36 #[]).run Tryd.prog w = .ok (.agg zeroI) w := by kernel_rfl
theorem zeroI_size : (Tryd.prog.info? 36).map (·.size) = some zeroI.size := by kernel_rfl
theorem zeroI_one : ∀ v ∈ zeroI, v.oneCell' = true := fun v hv => itL_one zeroIt v (by simpa [zeroI] using hv)
/-- The cells of items. -/
def itsL (xs : List It) : List Value := xs.flatMap itL
def ItsOk (xs : List It) : Prop := ∀ x ∈ xs, ItOk x
theorem itsL_len (xs : List It) (ho : ItsOk xs) : (itsL xs).length = xs.length * 101 := by
  induction xs with
  | nil => rfl
  | cons x xs ih =>
    have h1 := itL_len x (ho x (by simp))
    have h2 := ih (fun y hy => ho y (by simp [hy]))
    simp only [itsL, List.flatMap_cons, List.length_append, List.length_cons] at h2 ⊢
    omega
theorem itsL_at (xs : List It) (ho : ItsOk xs) (k : Nat) (x : It) (hk : xs[k]? = some x) (j : Nat) (hj : j < 101) : (itsL xs)[k * 101 + j]? = (itL x)[j]? := by
  induction xs generalizing k with
  | nil => simp at hk
  | cons y xs ih =>
    have h1 := itL_len y (ho y (by simp))
    simp only [itsL, List.flatMap_cons]
    cases k with
    | zero =>
      simp at hk
      subst hk
      rw [Nat.zero_mul, Nat.zero_add, List.getElem?_append_left (by omega)]
    | succ k =>
      rw [List.getElem?_append_right (by omega), h1, show (k + 1) * 101 + j - 101 = k * 101 + j by omega]
      exact ih (fun z hz => ho z (by simp [hz])) k (by simpa using hk)
theorem Rd.item {w : World} {lo n : Nat} {A : Option Addr} {xs : List It} (h : Rd w lo 101 A n (itsL xs)) (ho : ItsOk xs) {k : Nat} {x : It} (hk : xs[k]? = some x) : ∃ b o, A = some ⟨b, o, none⟩ ∧ lo ≤ b ∧ w.rangeAt b (o + k * 101) (itL x) := by
  have hl := itsL_len xs ho
  have hkn : k < xs.length := (List.getElem?_eq_some_iff.1 hk).1
  have h1 := h.1
  obtain ⟨b, o, e, hlo, hc⟩ := h.2 (by omega)
  refine ⟨b, o, e, hlo, fun j v hv => ?_⟩
  have hj : j < 101 := by
    have := (List.getElem?_eq_some_iff.1 hv).1
    rw [itL_len x (ho x (List.mem_of_getElem? hk))] at this
    exact this
  rw [Nat.add_assoc, hc _ (by omega), itsL_at xs ho k x hk j hj]
  exact hv
/-- Is an item well behind another? -/
def okIt (p x : It) : Bool := !(x.1 && (!decide (x = gapIt) || decide (p = gapIt)) || !x.1 && !evMay x.2)
def prevAt (xs : List It) (k : Nat) : It := if k = 0 then zeroIt else xs.getD (k - 1) zeroIt
/-- May a tap's items be? -/
def itsMay (xs : List It) : Bool := decide (xs.length ≤ 64) && (List.range xs.length).all fun k => okIt (prevAt xs k) (xs.getD k zeroIt)
theorem prev_ok (xs : List It) (ho : ItsOk xs) (k : Nat) : ItOk (prevAt xs k) := by
  unfold prevAt
  split
  · exact zeroIt_ok
  · rw [List.getD_eq_getElem?_getD]
    cases h : xs[k - 1]? with
    | none => exact zeroIt_ok
    | some y => exact ho y (List.mem_of_getElem? h)
theorem itsMay_yes (xs : List It) (hl : xs.length ≤ 64) (h : ∀ j, j < xs.length → okIt (prevAt xs j) (xs.getD j zeroIt) = true) : itsMay xs = true := by
  unfold itsMay
  rw [Bool.and_eq_true, List.all_eq_true]
  exact ⟨by simpa using hl, fun k hk => h k (List.mem_range.1 hk)⟩
theorem itsMay_no (xs : List It) (k : Nat) (hk : k < xs.length) (h : okIt (prevAt xs k) (xs.getD k zeroIt) = false) : itsMay xs = false := by
  unfold itsMay
  have : ((List.range xs.length).all fun k => okIt (prevAt xs k) (xs.getD k zeroIt)) = false := by
    rw [List.all_eq_false]
    exact ⟨k, List.mem_range.2 hk, by rw [h]; simp⟩
  rw [this, Bool.and_false]
section
variable {P : Program}
/-- A value built of nothing. -/
theorem wpList_bd {ops : Array Oper} {rest : List Oper} {o : Oper} {a : Act} {w : World} {Q : Exit → Act → World → Prop} (hg : o.guard = none) (t : TypeId) (ho : o.op = .build t #[]) (cells : Array Value) (hx : (Instr.build t #[]).run P w = .ok (.agg cells) w)
    (h : wpList P ops Q rest (a.put o.dst (.agg cells)) w) : wpList P ops Q (o :: rest) a w := by
  refine wpList_plain hg fun K hK => ?_
  unfold Oper.wp execOp
  simp only [ho, List.map_toArray, List.map_nil, Sem.run_bind, Sem.run_pure, Result.andThen_ok, hx]
  exact hK _ _ h
end

set_option maxHeartbeats 1000000 in
theorem check_big (A : Option Addr) (n c : Nat) (lost : Bool) (w : World) (h : 64 < n) :
    Calls Tryd.prog 34 #[.agg #[.slice A n c, .bool lost]] w fun e w' => e = .returned (.int .i64 8) ∧ Below w.heap.size w w' := by
  go_enter Tryd.func34, Tryd.ntmps34
  go_wp2_with (refine wpList_bx rfl 47 _ rfl #[.slice A n c, .bool lost] rfl ?_; intro w1 hB1 hb1 hz1; have d0 := hB1.cellv (i := 0) (v := .slice A n c) rfl)
  go_ret
  exact ⟨rfl, hb1⟩

set_option maxRecDepth 100000 in
set_option maxHeartbeats 4000000 in
theorem check_small (A : Option Addr) (n c lo : Nat) (lost : Bool) (xs : List It) (ho : ItsOk xs) (w : World) (hr : Rd w lo 101 A n (itsL xs)) (hn : n ≤ 64) (hG : GOk w) :
    Calls Tryd.prog 34 #[.agg #[.slice A n c, .bool lost]] w fun e w' => e = .returned (.int .i64 (errOf (itsMay xs))) ∧ Below w.heap.size w w' := by
  have hxl : xs.length = n := by have := hr.1; rw [itsL_len xs ho] at this; omega
  have hXl := hid hxl
  have tok1 : True := trivial
  go_enter Tryd.func34, Tryd.ntmps34
  go_wp2_with (first
    | (refine wpList_bx rfl 47 _ rfl #[.slice A n c, .bool lost] rfl ?_; intro w1 hB1 hb1 hz1; have d0 := hB1.cellv (i := 0) (v := .slice A n c) rfl)
    | (with_reducible refine wpList_bd rfl 36 rfl zeroI (zeroI_build _) ?_)
    | ((with_reducible refine wpList_al rfl 36 rfl zeroI (zeroI_run _) ?_); intro w2 hL2 hb2 hz2)
    | (refine wpList_str rfl 36 _ _ rfl w1.heap.size zeroI rfl rfl _ zeroI hL2 rfl zeroI_size zeroI_one ?_; intro w3 hL3 hg3 hz3; have d0 := ((hB1.belowS hb2).grown hg3 (by simp; omega)).cellv (i := 0) (v := .slice A n c) rfl))
  have hbz := hb2.grown hg3 hb2.size (by simp)
  have hb3 := hb1.trans (hbz.mono hb1.size)
  have hL3' : Blk w3 (w.heap.size + 1) 36 (itL (prevAt xs 0)).toArray := by rw [← hz1]; exact hL3
  have hbs3 : w.heap.size + 2 ≤ w3.heap.size := by omega
  have dT : w3.cell? ⟨w.heap.size, 0, none⟩ = some (.slice A n c) := d0
  clear hB1 hb1 hz1 hL2 hb2 hz2 hL3 hg3 hz3 hbz d0
  go_loopw [14] (fun i wx => ∃ k : Nat, k ≤ n ∧ i = .int .i64 k ∧ Blk wx (w.heap.size + 1) 36 (itL (prevAt xs k)).toArray ∧ Below w.heap.size w wx ∧ (∀ j, j < k → okIt (prevAt xs j) (xs.getD j zeroIt) = true)) (fun i _ => n - (intOf i).toNat)
  case atStart => exact ⟨0, Nat.zero_le _, rfl, hL3', hb3, fun j hj => absurd hj (Nat.not_lt_zero _)⟩
  case round =>
    clear hL3' hb3
    obtain ⟨k, hk, rfl, hL, hb, hgood⟩ := hrel
    have HGd := hid hgood
    clear hgood
    by_cases hlt : k < n
    · have hx : xs[k]? = some (xs[k]'(by omega)) := List.getElem?_eq_getElem (by omega)
      have hxd : xs.getD k zeroIt = xs[k]'(by omega) := by rw [List.getD_eq_getElem?_getD, hx]; rfl
      have hnext : prevAt xs (k + 1) = xs[k]'(by omega) := by
        unfold prevAt
        rw [if_neg (by omega), Nat.add_sub_cancel, hxd]
      generalize hxx : xs[k]'(by omega) = x at *
      have ox : ItOk x := ho x (List.mem_of_getElem? hx)
      have op := prev_ok xs ho k
      obtain ⟨b, o, rfl, _, rx⟩ := (hr.below hb).item ho hx
      have hGr := hG.below hb
      have hszx := it_size x ox
      have hszX := it_sizeA x ox
      have hszP := it_sizeA _ op
      have hszG := it_size _ gapIt_ok
      have hszE := ev_size x.2 ox
      have hXs : (itL x).toArray.size = zeroI.size := by rw [List.size_toArray, itL_len x ox]; rfl
      have hXo : ∀ v ∈ (itL x).toArray, v.oneCell' = true := fun v hv => itL_one x v (by simpa using hv)
      have hXP : (itL x).toArray.size = (itL (prevAt xs k)).toArray.size := by rw [List.size_toArray, List.size_toArray, itL_len x ox, itL_len _ op]
      have hX0 : (itL x).toArray[0]? = some (.bool x.1) := rfl
      have hXE : Hid (∀ j, j < (evL x.2).length → (itL x).toArray[1 + j]? = (evL x.2)[j]?) := hid fun j _ => by
        rw [List.getElem?_toArray, Nat.add_comm]
        rfl
      have HE1 : ∀ W, (Op.equalIn 10000 36 (.agg (itL x).toArray) (.agg (itL gapIt).toArray)).run Tryd.prog W = .ok (decide (x = gapIt)) W := fun W => run_eq_it 9995 x gapIt ox gapIt_ok W
      have HE2 : ∀ W, (Op.equalIn 10000 36 (.agg (itL (prevAt xs k)).toArray) (.agg (itL gapIt).toArray)).run Tryd.prog W = .ok (decide (prevAt xs k = gapIt)) W := fun W => run_eq_it 9995 _ gapIt op gapIt_ok W
      have hev := hid (fun W => event_any x.2 ox W)
      have hok : okIt (prevAt xs k) (xs.getD k zeroIt) = !(x.1 && (!decide (x = gapIt) || decide (prevAt xs k = gapIt)) || !x.1 && !evMay x.2) := by rw [hxd]; rfl
      have HOK := hid hok
      have HNX := hid hnext
      have HXD := hid hx
      generalize hq1 : decide (x = gapIt) = q1 at *
      generalize hq2 : decide (prevAt xs k = gapIt) = q2 at *
      generalize hq3 : evMay x.2 = q3 at *
      generalize hq0 : x.1 = q0 at *
      generalize hPL : itL (prevAt xs k) = PL at *
      generalize hXL : itL x = XL at *
      generalize hEL : evL x.2 = E at *
      have HXL := hid hXL
      clear hx hxd hnext hxx hok hq1 hq2 hq3 hq0 hPL hXL hEL ox op hXl
      have hti : (k : Int) < (n : Int) := by omega
      have htz : (0 : Int) ≤ (k : Int) := by omega
      obtain ⟨ad, had⟩ : ∃ ad, o + k * 101 = ad := ⟨_, rfl⟩
      rw [had] at rx
      have hpost : Hid (∀ w4 w5, Below wr.heap.size wr w4 → w4.grownBy w5 (some wr.heap.size) → Blk w5 wr.heap.size 36 XL.toArray → Below wr.heap.size wr w5 ∧ w5.cell? ⟨wr.heap.size, 0, none⟩ = some (.bool q0) ∧ Blk w5 (w.heap.size + 1) 36 PL.toArray ∧ GOk w5 ∧ w5.rangeAt wr.heap.size 1 E) := hid fun w4 w5 hb4 hg5 hX5 => by
        have hb5 : Below wr.heap.size wr w5 := hb4.grown hg5 hb4.size (by intro g e; cases e; exact Nat.le_refl _)
        exact ⟨hb5, hX5.cellv hX0, hL.belowS hb5, hGr.below hb5, hX5.range_from 1 E hXE.out⟩
      cases q0
      · cases q3
        · go_upto_region 7 with (first
            | ((with_reducible refine at_load 36 ?_); refine wpList_load_mid rfl 36 _ rfl b ad rfl XL _ rx Tryd.underlying36 rfl hszx ?_)
            | ((with_reducible refine at_alloc 36 ?_); refine wpList_al rfl 36 rfl zeroI (zeroI_run _) ?_; intro w4 hX4 hb4 hz4)
            | ((with_reducible refine at_store 36 ?_); refine wpList_str rfl 36 _ _ rfl wr.heap.size XL.toArray rfl rfl _ zeroI hX4 hXs zeroI_size hXo ?_; intro w5 hX5 hg5 hz5; obtain ⟨hb5, d0, hL5, hG5, r5⟩ := hpost.out w4 w5 hb4 hg5 hX5))
          go_wp2_with (first
            | ((with_reducible refine at_load 34 ?_); refine wpList_ldm_g (by kernel_rfl) 34 _ rfl wr.heap.size 1 rfl E _ r5 Tryd.underlying34 rfl hszE ?_)
            | ((with_reducible refine (hev.out _).mono ?_); rintro e w6 ⟨rfl, hb6⟩))
          go_ret
          have hno := itsMay_no xs k (by omega) HOK.out
          rw [hno]
          exact ⟨rfl, hb.trans ((hb5.trans (hb6.mono hb5.size)).mono hb.size)⟩
        · go_upto_region 7 with (first
            | ((with_reducible refine at_load 36 ?_); refine wpList_load_mid rfl 36 _ rfl b ad rfl XL _ rx Tryd.underlying36 rfl hszx ?_)
            | ((with_reducible refine at_alloc 36 ?_); refine wpList_al rfl 36 rfl zeroI (zeroI_run _) ?_; intro w4 hX4 hb4 hz4)
            | ((with_reducible refine at_store 36 ?_); refine wpList_str rfl 36 _ _ rfl wr.heap.size XL.toArray rfl rfl _ zeroI hX4 hXs zeroI_size hXo ?_; intro w5 hX5 hg5 hz5; obtain ⟨hb5, d0, hL5, hG5, r5⟩ := hpost.out w4 w5 hb4 hg5 hX5))
          go_wp2_with (first
            | ((with_reducible refine at_load 34 ?_); refine wpList_ldm_g (by kernel_rfl) 34 _ rfl wr.heap.size 1 rfl E _ r5 Tryd.underlying34 rfl hszE ?_)
            | ((with_reducible refine (hev.out _).mono ?_); rintro e w6 ⟨rfl, hb6⟩))
          refine wp_load_row 36 _ rfl wr.heap.size rfl _ XL.toArray (0, 0) _ (hX5.belowS hb6) Tryd.underlying36 rfl hszX ?_
          go_wp2_with (first
            | ((with_reducible refine at_store 36 ?_); refine wpList_str rfl 36 _ _ rfl (w.heap.size + 1) XL.toArray rfl rfl _ PL.toArray (hL5.belowS hb6) hXP hszP hXo ?_; intro w7 hX7 hg7 hz7))
          have hbX := hb.trans ((hb5.trans (hb6.mono hb5.size)).mono hb.size)
          have hbY := hbX.grown hg7 hbX.size (by intro g e; cases e; omega)
          refine ⟨⟨k + 1, by omega, by go_num, by rw [HNX.out, HXL.out]; exact hX7, hbY, fun j hj => ?_⟩, by simp [intOf]; omega⟩
          rcases Nat.lt_succ_iff_lt_or_eq.1 hj with h | rfl
          · exact HGd.out j h
          · rw [HOK.out]; rfl
      · cases q1
        · go_upto_region 7 with (first
            | ((with_reducible refine at_load 36 ?_); refine wpList_load_mid rfl 36 _ rfl b ad rfl XL _ rx Tryd.underlying36 rfl hszx ?_)
            | ((with_reducible refine at_alloc 36 ?_); refine wpList_al rfl 36 rfl zeroI (zeroI_run _) ?_; intro w4 hX4 hb4 hz4)
            | ((with_reducible refine at_store 36 ?_); refine wpList_str rfl 36 _ _ rfl wr.heap.size XL.toArray rfl rfl _ zeroI hX4 hXs zeroI_size hXo ?_; intro w5 hX5 hg5 hz5; obtain ⟨hb5, d0, hL5, hG5, r5⟩ := hpost.out w4 w5 hb4 hg5 hX5))
          go_wp2_with (first
            | ((with_reducible refine at_load (d := some 21) 36 ?_); refine wpList_ldr_g (by kernel_rfl) 36 _ rfl wr.heap.size rfl _ XL.toArray _ hX5 Tryd.underlying36 rfl hszX ?_)
            | ((with_reducible refine at_load (d := some 22) 36 ?_); refine wpList_ldm_g (by kernel_rfl) 36 _ rfl 0 0 rfl (itL gapIt) _ hG5 Tryd.underlying36 rfl hszG ?_))
          go_ret
          have hno := itsMay_no xs k (by omega) (HOK.out.trans rfl)
          rw [hno]
          exact ⟨rfl, hb.trans (hb5.mono hb.size)⟩
        · cases q2
          · go_upto_region 7 with (first
              | ((with_reducible refine at_load 36 ?_); refine wpList_load_mid rfl 36 _ rfl b ad rfl XL _ rx Tryd.underlying36 rfl hszx ?_)
              | ((with_reducible refine at_alloc 36 ?_); refine wpList_al rfl 36 rfl zeroI (zeroI_run _) ?_; intro w4 hX4 hb4 hz4)
              | ((with_reducible refine at_store 36 ?_); refine wpList_str rfl 36 _ _ rfl wr.heap.size XL.toArray rfl rfl _ zeroI hX4 hXs zeroI_size hXo ?_; intro w5 hX5 hg5 hz5; obtain ⟨hb5, d0, hL5, hG5, r5⟩ := hpost.out w4 w5 hb4 hg5 hX5))
            go_wp2_with (first
              | ((with_reducible refine at_load (d := some 21) 36 ?_); refine wpList_ldr_g (by kernel_rfl) 36 _ rfl wr.heap.size rfl _ XL.toArray _ hX5 Tryd.underlying36 rfl hszX ?_)
              | ((with_reducible refine at_load (d := some 22) 36 ?_); refine wpList_ldm_g (by kernel_rfl) 36 _ rfl 0 0 rfl (itL gapIt) _ hG5 Tryd.underlying36 rfl hszG ?_)
              | ((with_reducible refine at_load (d := some 25) 36 ?_); refine wpList_ldr_g (by kernel_rfl) 36 _ rfl (w.heap.size + 1) rfl _ PL.toArray _ hL5 Tryd.underlying36 rfl hszP ?_)
              | ((with_reducible refine at_load (d := some 26) 36 ?_); refine wpList_ldm_g (by kernel_rfl) 36 _ rfl 0 0 rfl (itL gapIt) _ hG5 Tryd.underlying36 rfl hszG ?_)
              | ((with_reducible refine at_load (d := some 41) 36 ?_); refine wpList_ldr rfl 36 _ rfl wr.heap.size rfl _ XL.toArray _ hX5 Tryd.underlying36 rfl hszX ?_)
              | ((with_reducible refine at_store 36 ?_); refine wpList_str rfl 36 _ _ rfl (w.heap.size + 1) XL.toArray rfl rfl _ PL.toArray hL5 hXP hszP hXo ?_; intro w7 hX7 hg7 hz7))
            have hbX := hb.trans (hb5.mono hb.size)
            have hbY := hbX.grown hg7 hbX.size (by intro g e; cases e; omega)
            refine ⟨⟨k + 1, by omega, by go_num, by rw [HNX.out, HXL.out]; exact hX7, hbY, fun j hj => ?_⟩, by simp [intOf]; omega⟩
            rcases Nat.lt_succ_iff_lt_or_eq.1 hj with h | rfl
            · exact HGd.out j h
            · rw [HOK.out]; rfl
          · go_upto_region 7 with (first
              | ((with_reducible refine at_load 36 ?_); refine wpList_load_mid rfl 36 _ rfl b ad rfl XL _ rx Tryd.underlying36 rfl hszx ?_)
              | ((with_reducible refine at_alloc 36 ?_); refine wpList_al rfl 36 rfl zeroI (zeroI_run _) ?_; intro w4 hX4 hb4 hz4)
              | ((with_reducible refine at_store 36 ?_); refine wpList_str rfl 36 _ _ rfl wr.heap.size XL.toArray rfl rfl _ zeroI hX4 hXs zeroI_size hXo ?_; intro w5 hX5 hg5 hz5; obtain ⟨hb5, d0, hL5, hG5, r5⟩ := hpost.out w4 w5 hb4 hg5 hX5))
            go_wp2_with (first
              | ((with_reducible refine at_load (d := some 21) 36 ?_); refine wpList_ldr_g (by kernel_rfl) 36 _ rfl wr.heap.size rfl _ XL.toArray _ hX5 Tryd.underlying36 rfl hszX ?_)
              | ((with_reducible refine at_load (d := some 22) 36 ?_); refine wpList_ldm_g (by kernel_rfl) 36 _ rfl 0 0 rfl (itL gapIt) _ hG5 Tryd.underlying36 rfl hszG ?_)
              | ((with_reducible refine at_load (d := some 25) 36 ?_); refine wpList_ldr_g (by kernel_rfl) 36 _ rfl (w.heap.size + 1) rfl _ PL.toArray _ hL5 Tryd.underlying36 rfl hszP ?_)
              | ((with_reducible refine at_load (d := some 26) 36 ?_); refine wpList_ldm_g (by kernel_rfl) 36 _ rfl 0 0 rfl (itL gapIt) _ hG5 Tryd.underlying36 rfl hszG ?_))
            go_ret
            have hno := itsMay_no xs k (by omega) (HOK.out.trans rfl)
            rw [hno]
            exact ⟨rfl, hb.trans (hb5.mono hb.size)⟩
    · obtain rfl : k = n := by omega
      have hti : ¬ (k : Int) < (k : Int) := by omega
      go_wp2
      go_ret
      have hyes := itsMay_yes xs (by have := hXl.out; omega) (by rw [hXl.out]; exact HGd.out)
      rw [hyes]
      exact ⟨rfl, hb⟩
end Go.Proofs.YtmepbokoopgmiaaDoor
