/-
  Items of a tap, events and headers, as rows of cells; two of them compared. No condition beyond those each theorem names.
-/
import Derived.Test.YtmepbokoopgmiaaDoorArr
import Derived.ChangeKeysEq
import Derived.Laws.StructEq
import Derived.Deep.RegionHeld3
namespace Go.Proofs.YtmepbokoopgmiaaDoor
open Go.RowKit

/-- A header: its height, three digests, how many rows. -/
abbrev Hd := Int × List UInt8 × List UInt8 × List UInt8 × Int
/-- An event: its number, whether a roll, its header. -/
abbrev Ev := Int × Bool × Hd
/-- An item: whether a gap, its event. -/
abbrev It := Bool × Ev
instance instHd : DecidableEq Hd := inferInstance
instance instEv : DecidableEq Ev := @instDecidableEqProd Int (Bool × Hd) inferInstance (@instDecidableEqProd Bool Hd inferInstance instHd)
instance instIt : DecidableEq It := @instDecidableEqProd Bool Ev inferInstance instEv
def hdL (h : Hd) : List Value := .int .i64 h.1 :: (h.2.1.map bv ++ (h.2.2.1.map bv ++ (h.2.2.2.1.map bv ++ [.int .i64 h.2.2.2.2])))
def evL (e : Ev) : List Value := .int .i64 e.1 :: .bool e.2.1 :: hdL e.2.2
def itL (x : It) : List Value := .bool x.1 :: evL x.2
def HdOk (h : Hd) : Prop := h.2.1.length = 32 ∧ h.2.2.1.length = 32 ∧ h.2.2.2.1.length = 32
def ItOk (x : It) : Prop := HdOk x.2.2.2
theorem hdL_len (h : Hd) (ho : HdOk h) : (hdL h).length = 98 := by
  obtain ⟨a, b, c, d, e⟩ := h
  obtain ⟨h1, h2, h3⟩ := ho
  simp only at h1 h2 h3
  simp [hdL, h1, h2, h3]
theorem evL_len (e : Ev) (ho : HdOk e.2.2) : (evL e).length = 100 := by simp [evL, hdL_len _ ho]
theorem itL_len (x : It) (ho : ItOk x) : (itL x).length = 101 := by simp [itL, evL_len _ ho]
theorem hdL_one (h : Hd) : ∀ v ∈ hdL h, v.oneCell' = true := by
  intro v hv
  simp only [hdL, List.mem_cons, List.mem_append, List.mem_map, List.not_mem_nil, or_false] at hv
  rcases hv with rfl | ⟨_, _, rfl⟩ | ⟨_, _, rfl⟩ | ⟨_, _, rfl⟩ | rfl <;> rfl
theorem evL_one (e : Ev) : ∀ v ∈ evL e, v.oneCell' = true := by
  intro v hv
  simp only [evL, List.mem_cons] at hv
  rcases hv with rfl | rfl | hv
  · rfl
  · rfl
  · exact hdL_one _ v hv
theorem itL_one (x : It) : ∀ v ∈ itL x, v.oneCell' = true := by
  intro v hv
  simp only [itL, List.mem_cons] at hv
  rcases hv with rfl | hv
  · rfl
  · exact evL_one _ v hv

/-! ### comparison -/
theorem cellsOf_byte : Tryd.prog.cellsOf 5 = 1 := by kernel_rfl
theorem run_part_byte (xs : List UInt8) (i : Nat) (c : UInt8) (h : xs[i]? = some c) (w : World) : (part 5 (xs.map bv).toArray i).run Tryd.prog w = .ok (bv c) w := by
  apply run_part_plain w (by kernel_rfl)
  simp [h]
theorem run_eqItems_bytes (d : Nat) (xs ys : List UInt8) (hl : xs.length = ys.length) (w : World) : ∀ (k i : Nat), i + k = xs.length →
    (Op.eqItems (d + 1) 5 (Tryd.prog.cellsOf 5) (xs.map bv).toArray (ys.map bv).toArray (List.range' i k)).run Tryd.prog w = .ok (decide (xs.drop i = ys.drop i)) w
  | 0, i, h => by
    rw [List.drop_of_length_le (by omega), List.drop_of_length_le (by omega)]
    simp [Op.eqItems]
  | k + 1, i, h => by
    have hx : xs[i]? = some (xs[i]'(by omega)) := List.getElem?_eq_getElem (by omega)
    have hy : ys[i]? = some (ys[i]'(by omega)) := List.getElem?_eq_getElem (by omega)
    have ih := run_eqItems_bytes d xs ys hl w k (i + 1) (by omega)
    have dx : xs.drop i = xs[i]'(by omega) :: xs.drop (i + 1) := List.drop_eq_getElem_cons (by omega)
    have dy : ys.drop i = ys[i]'(by omega) :: ys.drop (i + 1) := List.drop_eq_getElem_cons (by omega)
    rw [dx, dy]
    generalize xs[i]'(by omega) = c at *
    generalize ys[i]'(by omega) = e at *
    rw [List.range'_succ]
    have h1 := run_part_byte xs (i * Tryd.prog.cellsOf 5) c (by rw [cellsOf_byte, Nat.mul_one]; exact hx) w
    have h2 := run_part_byte ys (i * Tryd.prog.cellsOf 5) e (by rw [cellsOf_byte, Nat.mul_one]; exact hy) w
    have h3 : (Op.equalIn (d + 1) 5 (bv c) (bv e)).run Tryd.prog w = .ok ((c.toNat : Int) == (e.toNat : Int)) w := run_equalIn_int w d 5 .u8 .u8 _ _ Tryd.underlying5
    simp only [Op.eqItems, Sem.run_bind, h1, h2, h3, Result.andThen_ok]
    by_cases e' : c = e
    · subst e'
      simp [ih]
    · have : ((c.toNat : Int) == (e.toNat : Int)) = false := by
        rw [beq_eq_false_iff_ne]
        intro h
        exact e' (UInt8.toNat_inj.1 (by omega))
      simp [this, e']
theorem run_eq_digD (d : Nat) (xs ys : List UInt8) (h1 : xs.length = 32) (h2 : ys.length = 32) (w : World) : (Op.equalIn (d + 2) 30 (.agg (xs.map bv).toArray) (.agg (ys.map bv).toArray)).run Tryd.prog w = .ok (decide (xs = ys)) w := by
  obtain ⟨i, hi⟩ := info_of_underlying (P := Tryd.prog) (t := 5) Tryd.underlying5
  rw [show d + 2 = (d + 1) + 1 from rfl, run_equalIn_array w (d + 1) _ _ Tryd.underlying30 hi, List.range_eq_range']
  simpa using run_eqItems_bytes d xs ys (by omega) w 32 0 (by omega)
/-- A part that is a row itself. -/
theorem run_part_row {e : TypeId} {k : TypeDesc} (hu : Tryd.prog.underlying e = some k) (hk : (match k with | .struct _ | .array _ _ => true | _ => false) = true) (n : Nat) (hn : Tryd.prog.cellsOf e = n) (pre mid post : List Value) (hm : mid.length = n) (w : World) :
    (part e (pre ++ (mid ++ post)).toArray pre.length).run Tryd.prog w = .ok (.agg mid.toArray) w := by
  obtain ⟨i, hi⟩ := info_of_underlying hu
  cases k <;> simp at hk <;> simp [part, isAgg, run_underlying hu, run_sizeOf w hi, hn] <;> exact List.take_left' hm
theorem run_part_int (xs : List Value) (i : Nat) (n : Int) (h : xs[i]? = some (.int .i64 n)) (w : World) : (part 3 xs.toArray i).run Tryd.prog w = .ok (.int .i64 n) w := by
  apply run_part_plain w (by kernel_rfl)
  simpa using h
theorem run_part_bool (xs : List Value) (i : Nat) (b : Bool) (h : xs[i]? = some (.bool b)) (w : World) : (part 4 xs.toArray i).run Tryd.prog w = .ok (.bool b) w := by
  apply run_part_plain w (by kernel_rfl)
  simpa using h
theorem run_part_dig (pre : List Value) (ds : List UInt8) (post : List Value) (hd : ds.length = 32) (k : Nat) (hk : pre.length = k) (w : World) : (part 30 (pre ++ (ds.map bv ++ post)).toArray k).run Tryd.prog w = .ok (.agg (ds.map bv).toArray) w := by
  subst hk
  exact run_part_row Tryd.underlying30 rfl 32 (by kernel_rfl) pre (ds.map bv) post (by simpa using hd) w

theorem eqI (d : Nat) (a b : Int) (w : World) : (Op.equalIn (d + 1) 3 (.int .i64 a) (.int .i64 b)).run Tryd.prog w = .ok (decide (a = b)) w :=
  (run_equalIn_int w d 3 .i64 .i64 _ _ Tryd.underlying3).trans rfl
theorem eqB (d : Nat) (a b : Bool) (w : World) : (Op.equalIn (d + 1) 4 (.bool a) (.bool b)).run Tryd.prog w = .ok (decide (a = b)) w :=
  (run_equalIn_bool w d 4 _ _ Tryd.underlying4).trans (by cases a <;> cases b <;> rfl)

theorem eqFields_step {P : Program} {d : Nat} {xs ys : Array Value} {f : Field} {fs : List Field} {a b : Value} {q r : Bool} {w : World} (hn : f.name ≠ "_") (ha : (part f.type xs f.offset).run P w = .ok a w) (hb : (part f.type ys f.offset).run P w = .ok b w)
    (he : (Op.equalIn d f.type a b).run P w = .ok q w) (hr : (Op.eqFields d xs ys fs).run P w = .ok r w) : (Op.eqFields d xs ys (f :: fs)).run P w = .ok (q && r) w := by
  unfold Op.eqFields
  rw [if_pos hn]
  simp only [Sem.run_bind, ha, hb, he, Result.andThen_ok]
  cases q
  · rfl
  · exact hr
theorem eqFields_nil {P : Program} {d : Nat} {xs ys : Array Value} {w : World} : (Op.eqFields d xs ys []).run P w = .ok true w := rfl
theorem run_eq_hd (d : Nat) (x y : Hd) (hx : HdOk x) (hy : HdOk y) (w : World) : (Op.equalIn (d + 3) 32 (.agg (hdL x).toArray) (.agg (hdL y).toArray)).run Tryd.prog w = .ok (decide (x = y)) w := by
  obtain ⟨h, p, s, r, m⟩ := x
  obtain ⟨h', p', s', r', m'⟩ := y
  obtain ⟨x1, x2, x3⟩ := hx
  obtain ⟨y1, y2, y3⟩ := hy
  simp only at x1 x2 x3 y1 y2 y3
  have hS : Tryd.prog.underlying 32 = some (.struct (Tryd.prog.fieldsOf 32)) := by kernel_rfl
  have a0 := run_part_int (hdL (h, p, s, r, m)) 0 h rfl w
  have b0 := run_part_int (hdL (h', p', s', r', m')) 0 h' rfl w
  have a1 := run_part_dig [.int .i64 h] p (s.map bv ++ (r.map bv ++ [.int .i64 m])) x1 1 rfl w
  have b1 := run_part_dig [.int .i64 h'] p' (s'.map bv ++ (r'.map bv ++ [.int .i64 m'])) y1 1 rfl w
  have a2 := run_part_dig ([.int .i64 h] ++ p.map bv) s (r.map bv ++ [.int .i64 m]) x2 33 (by simp [x1]) w
  have b2 := run_part_dig ([.int .i64 h'] ++ p'.map bv) s' (r'.map bv ++ [.int .i64 m']) y2 33 (by simp [y1]) w
  have a3 := run_part_dig ([.int .i64 h] ++ p.map bv ++ s.map bv) r [.int .i64 m] x3 65 (by simp [x1, x2]) w
  have b3 := run_part_dig ([.int .i64 h'] ++ p'.map bv ++ s'.map bv) r' [.int .i64 m'] y3 65 (by simp [y1, y2]) w
  have a4 := run_part_int (hdL (h, p, s, r, m)) 97 m (by
    show (.int .i64 h :: (p.map bv ++ (s.map bv ++ (r.map bv ++ [.int .i64 m]))))[97]? = _
    rw [List.getElem?_cons_succ, List.getElem?_append_right (by simp [x1]), List.getElem?_append_right (by simp [x1, x2]), List.getElem?_append_right (by simp [x1, x2, x3])]
    simp [x1, x2, x3]) w
  have b4 := run_part_int (hdL (h', p', s', r', m')) 97 m' (by
    show (.int .i64 h' :: (p'.map bv ++ (s'.map bv ++ (r'.map bv ++ [.int .i64 m']))))[97]? = _
    rw [List.getElem?_cons_succ, List.getElem?_append_right (by simp [y1]), List.getElem?_append_right (by simp [y1, y2]), List.getElem?_append_right (by simp [y1, y2, y3])]
    simp [y1, y2, y3]) w
  simp only [List.append_assoc] at a1 a2 a3 b1 b2 b3
  change (part _ (hdL (h, p, s, r, m)).toArray _).run _ _ = _ at a1 a2 a3
  change (part _ (hdL (h', p', s', r', m')).toArray _).run _ _ = _ at b1 b2 b3
  have e0 := eqI (d + 1) h h' w
  have e1 := run_eq_digD d p p' x1 y1 w
  have e2 := run_eq_digD d s s' x2 y2 w
  have e3 := run_eq_digD d r r' x3 y3 w
  have e4 := eqI (d + 1) m m' w
  rw [show d + 3 = (d + 2) + 1 from rfl, run_equalIn_struct w (d + 2) _ _ _ hS (by kernel_rfl)]
  simp only [Program.fieldsOf, Tryd.underlying32]
  generalize (hdL (h, p, s, r, m)).toArray = X at *
  generalize (hdL (h', p', s', r', m')).toArray = Y at *
  have hg : (decide ((h, p, s, r, m) = (h', p', s', r', m'))) = (decide (h = h') && (decide (p = p') && (decide (s = s') && (decide (r = r') && decide (m = m'))))) := by
    rw [Bool.eq_iff_iff]
    simp
  rw [hg, ← Bool.and_true (decide (m = m'))]
  exact eqFields_step (by decide) a0 b0 e0 (eqFields_step (by decide) a1 b1 e1 (eqFields_step (by decide) a2 b2 e2 (eqFields_step (by decide) a3 b3 e3 (eqFields_step (by decide) a4 b4 e4 eqFields_nil))))
theorem run_eq_ev (d : Nat) (x y : Ev) (hx : HdOk x.2.2) (hy : HdOk y.2.2) (w : World) : (Op.equalIn (d + 4) 34 (.agg (evL x).toArray) (.agg (evL y).toArray)).run Tryd.prog w = .ok (decide (x = y)) w := by
  obtain ⟨n, r, h⟩ := x
  obtain ⟨n', r', h'⟩ := y
  simp only at hx hy
  have hS : Tryd.prog.underlying 34 = some (.struct (Tryd.prog.fieldsOf 34)) := by kernel_rfl
  have a0 := run_part_int (evL (n, r, h)) 0 n rfl w
  have b0 := run_part_int (evL (n', r', h')) 0 n' rfl w
  have a1 := run_part_bool (evL (n, r, h)) 1 r rfl w
  have b1 := run_part_bool (evL (n', r', h')) 1 r' rfl w
  have a2 := run_part_row Tryd.underlying32 rfl 98 (by kernel_rfl) [.int .i64 n, .bool r] (hdL h) [] (hdL_len h hx) w
  have b2 := run_part_row Tryd.underlying32 rfl 98 (by kernel_rfl) [.int .i64 n', .bool r'] (hdL h') [] (hdL_len h' hy) w
  simp only [List.append_nil] at a2 b2
  have e0 := eqI (d + 2) n n' w
  have e1 := eqB (d + 2) r r' w
  have e2 := run_eq_hd d h h' hx hy w
  rw [show d + 4 = (d + 3) + 1 from rfl, run_equalIn_struct w (d + 3) _ _ _ hS (by kernel_rfl)]
  simp only [Program.fieldsOf, Tryd.underlying34]
  have hg : (decide ((n, r, h) = (n', r', h'))) = (decide (n = n') && (decide (r = r') && decide (h = h'))) := by
    rw [Bool.eq_iff_iff]
    simp
  rw [hg, ← Bool.and_true (decide (h = h'))]
  exact eqFields_step (by decide) a0 b0 e0 (eqFields_step (by decide) a1 b1 e1 (eqFields_step (by decide) a2 b2 e2 eqFields_nil))
theorem run_eq_it (d : Nat) (x y : It) (hx : ItOk x) (hy : ItOk y) (w : World) : (Op.equalIn (d + 5) 36 (.agg (itL x).toArray) (.agg (itL y).toArray)).run Tryd.prog w = .ok (decide (x = y)) w := by
  obtain ⟨g, e⟩ := x
  obtain ⟨g', e'⟩ := y
  have hS : Tryd.prog.underlying 36 = some (.struct (Tryd.prog.fieldsOf 36)) := by kernel_rfl
  have a0 := run_part_bool (itL (g, e)) 0 g rfl w
  have b0 := run_part_bool (itL (g', e')) 0 g' rfl w
  have a1 := run_part_row Tryd.underlying34 rfl 100 (by kernel_rfl) [.bool g] (evL e) [] (evL_len e hx) w
  have b1 := run_part_row Tryd.underlying34 rfl 100 (by kernel_rfl) [.bool g'] (evL e') [] (evL_len e' hy) w
  simp only [List.append_nil] at a1 b1
  have e0 := eqB (d + 3) g g' w
  have e1 := run_eq_ev d e e' hx hy w
  rw [show d + 5 = (d + 4) + 1 from rfl, run_equalIn_struct w (d + 4) _ _ _ hS (by kernel_rfl)]
  simp only [Program.fieldsOf, Tryd.underlying36]
  have hg : (decide ((g, e) = (g', e'))) = (decide (g = g') && decide (e = e')) := by
    rw [Bool.eq_iff_iff]
    simp
  rw [hg, ← Bool.and_true (decide (e = e'))]
  exact eqFields_step (by decide) a0 b0 e0 (eqFields_step (by decide) a1 b1 e1 eqFields_nil)
/-- The gap. -/
def zeroHd : Hd := (0, List.replicate 32 0, List.replicate 32 0, List.replicate 32 0, 0)
def zeroEv : Ev := (0, false, zeroHd)
def zeroIt : It := (false, zeroEv)
def gapIt : It := (true, zeroEv)
theorem zeroHd_ok : HdOk zeroHd := ⟨rfl, rfl, rfl⟩
theorem zeroIt_ok : ItOk zeroIt := zeroHd_ok
theorem gapIt_ok : ItOk gapIt := zeroHd_ok
end Go.Proofs.YtmepbokoopgmiaaDoor
