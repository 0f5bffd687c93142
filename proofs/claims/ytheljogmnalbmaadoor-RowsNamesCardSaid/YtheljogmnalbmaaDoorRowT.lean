/-
  The law RowsNames walked: the chapter's examples.
-/
import Derived.Test.YtheljogmnalbmaaDoorRowR
import Derived.Test.YtheljogmnalbmaaDoorRowS
namespace Go.Proofs.YtheljogmnalbmaaDoor
open Go.RowKit
set_option linter.unusedSimpArgs false
set_option linter.unusedVariables false

section
variable {P : Program}
/-- Slice literals of one and of two, guarded or not. -/
theorem wpList_bs1_g {ops : Array Oper} {rest : List Oper} {o : Oper} {a : Act} {w : World} {Q : Exit → Act → World → Prop} (hgd : Region.wanted o (yielded ops a.tmps) = true) (t e : TypeId) (len : Nat) (y : Operand) (ho : o.op = .buildSlice t len #[(0, y)]) (v : Value) (hv : a.eval y = v) (cells : Array Value)
    (hx : (Instr.buildSlice t len #[(0, v)]).run P w = .ok (.slice (some ⟨w.heap.size, 0, none⟩) len len) (w.alloc (.cells cells e)))
    (h : ∀ w', Blk w' w.heap.size e cells → Below w.heap.size w w' → wpList P ops Q rest (a.put o.dst (.slice (some ⟨w.heap.size, 0, none⟩) len len)) w') : wpList P ops Q (o :: rest) a w := by
  refine wpList_step fun K hK => ?_
  rw [if_pos hgd]
  unfold Oper.wp execOp
  simp only [ho, List.map_toArray, List.map_cons, List.map_nil, hv, Sem.run_bind, hx, Result.andThen_ok]
  exact hK _ _ (h _ (Blk.new w e cells) (below_alloc1 w _))
theorem wpList_bs2_g {ops : Array Oper} {rest : List Oper} {o : Oper} {a : Act} {w : World} {Q : Exit → Act → World → Prop} (hgd : Region.wanted o (yielded ops a.tmps) = true) (t e : TypeId) (len : Nat) (y z : Operand) (ho : o.op = .buildSlice t len #[(0, y), (1, z)]) (v u : Value) (hv : a.eval y = v) (hu : a.eval z = u) (cells : Array Value)
    (hx : (Instr.buildSlice t len #[(0, v), (1, u)]).run P w = .ok (.slice (some ⟨w.heap.size, 0, none⟩) len len) (w.alloc (.cells cells e)))
    (h : ∀ w', Blk w' w.heap.size e cells → Below w.heap.size w w' → wpList P ops Q rest (a.put o.dst (.slice (some ⟨w.heap.size, 0, none⟩) len len)) w') : wpList P ops Q (o :: rest) a w := by
  refine wpList_step fun K hK => ?_
  rw [if_pos hgd]
  unfold Oper.wp execOp
  simp only [ho, List.map_toArray, List.map_cons, List.map_nil, hv, hu, Sem.run_bind, hx, Result.andThen_ok]
  exact hK _ _ (h _ (Blk.new w e cells) (below_alloc1 w _))
end
theorem dig_bslice2 (d e : List UInt8) (hd : d.length = 32) (he : e.length = 32) (w : World) : (Instr.buildSlice 25 2 #[(0, .agg (d.map bv).toArray), (1, .agg (e.map bv).toArray)]).run Tryd.prog w = .ok (.slice (some ⟨w.heap.size, 0, none⟩) 2 2) (w.alloc (.cells (d.map bv ++ e.map bv).toArray 23)) := by
  obtain ⟨i0, hi0, hz0, hz1, hz2⟩ := info_parts dig_info
  refine run_buildSlice w _ _ _ _ _ i0 _ Tryd.underlying25 hi0 hz0 (by rw [hz1]; omega) (by rw [hz1]; omega) ?_
  rw [hz1]
  have := Great.fill_whole (s := 32) (by omega) [Value.agg (d.map bv).toArray, Value.agg (e.map bv).toArray] ((Array.range (2 * 32)).map ((Value.agg zeroD).cells[· % (Value.agg zeroD).cells.size]!)) (fun v hv => by
    simp only [List.mem_cons, List.mem_nil_iff, or_false] at hv
    rcases hv with rfl | rfl
    · simp [Value.cells, hd]
    · simp [Value.cells, he]) (by simp)
  refine this.trans ?_
  simp [Value.cells]
theorem digs_blk {w : World} {g : Nat} (ds : List (List UInt8)) (hd : Dg ds) (h : Blk w g 23 (dsL ds).toArray) : Digs w (some ⟨g, 0, none⟩) ds.length ds := by
  refine ⟨hd, dsL_len hd, fun _ => ⟨g, 0, rfl, Nat.zero_le _, fun j _ => ?_⟩⟩
  rw [Nat.zero_add, cell_of_row _ _ _ _ _ _ h]
  simp
theorem made_slices (n : Nat) : (madeCells (Value.slice none 0 0).cells (n * 1)).toList = List.replicate n (Value.slice none 0 0) := by
  show (madeCells #[Value.slice none 0 0] (n * 1)).toList = _
  rw [toList_madeCells_one, Nat.mul_one]
theorem heads_made (w : World) (n : Nat) : Heads w (List.replicate n (Value.slice none 0 0)) (List.replicate n []) := by
  refine ⟨by simp, fun i hi => ⟨none, 0, 0, ?_, ?_⟩⟩
  · rw [List.getElem?_replicate, if_pos (by simpa using hi)]
  · rw [List.getD_eq_getElem?_getD, List.getElem?_replicate, if_pos (by simpa using hi)]
    exact ⟨rfl, fun h => by omega⟩
theorem listB_257 : listB (List.replicate 257 []) = false := by
  unfold listB
  rw [decide_eq_false (by rw [List.length_replicate]; omega)]
  rfl
def abcL : List (List UInt8) := [[97], [98], [99]]
theorem front23 : frontN 3 = 2 ∧ frontN 2 = 1 ∧ frontN 4 = 2 := by
  have h3 := frontN_bounds (n := 3) (by omega)
  have h2 := frontN_bounds (n := 2) (by omega)
  have h4 := front_join (k := 1) (m := 2) (by omega) (by omega)
  refine ⟨by omega, by omega, h4⟩
theorem sides_abc0 : sidesT [[97], [98], [99]] 0 = [digOf 7 [[98]], digOf 7 [[99]]] := by
  obtain ⟨e3, e2, _⟩ := front23
  rw [sidesT_lt (by decide) (by rw [show ([[97], [98], [99]] : List (List UInt8)).length = 3 from rfl, e3]; omega), show ([[97], [98], [99]] : List (List UInt8)).length = 3 from rfl, e3]
  rw [show ([[97], [98], [99]] : List (List UInt8)).take 2 = [[97], [98]] from rfl, show ([[97], [98], [99]] : List (List UInt8)).drop 2 = [[99]] from rfl, rootT_one]
  rw [sidesT_lt (by decide) (by rw [show ([[97], [98]] : List (List UInt8)).length = 2 from rfl, e2]; omega), show ([[97], [98]] : List (List UInt8)).length = 2 from rfl, e2]
  rw [show ([[97], [98]] : List (List UInt8)).take 1 = [[97]] from rfl, show ([[97], [98]] : List (List UInt8)).drop 1 = [[98]] from rfl, rootT_one, sidesT_one (by decide)]
  rfl
theorem sides_abc2 : sidesT [[97], [98], [99]] 2 = [digOf 8 [digOf 7 [[97]], digOf 7 [[98]]]] := by
  obtain ⟨e3, e2, _⟩ := front23
  rw [sidesT_ge (by decide) (by rw [show ([[97], [98], [99]] : List (List UInt8)).length = 3 from rfl, e3]; omega), show ([[97], [98], [99]] : List (List UInt8)).length = 3 from rfl, e3]
  rw [show ([[97], [98], [99]] : List (List UInt8)).take 2 = [[97], [98]] from rfl, show ([[97], [98], [99]] : List (List UInt8)).drop 2 = [[99]] from rfl, sidesT_one (by decide), rootT_two (by decide)]
  rw [show ([[97], [98]] : List (List UInt8)).length = 2 from rfl, e2, show ([[97], [98]] : List (List UInt8)).take 1 = [[97]] from rfl, show ([[97], [98]] : List (List UInt8)).drop 1 = [[98]] from rfl, rootT_one, rootT_one]
  rfl
theorem fits_abc (R F : List UInt8) (p : List UInt8) : fitsT R 3 1 p [F] = false ∧ fitsT R 4 2 p [F] = false := by
  obtain ⟨e3, e2, e4⟩ := front23
  have l1 : (turnsL 3 1).length = 2 := by
    rw [turnsL_lt (by omega) (by omega), e3, turnsL_ge (by omega) (by omega), e2, turnsL_one (by omega)]
    rfl
  have l2 : (turnsL 4 2).length = 2 := by
    rw [turnsL_ge (by omega) (by omega), e4, show (4 : Nat) - 2 = 2 from rfl, show (2 : Nat) - 2 = 0 from rfl, turnsL_lt (by omega) (by omega), e2, turnsL_one (by omega)]
    rfl
  constructor
  · unfold fitsT
    split
    · rfl
    · rw [if_pos]
      rw [show (3 : Int).toNat = 3 from rfl, show (1 : Int).toNat = 1 from rfl, l1]
      simp
  · unfold fitsT
    split
    · rfl
    · rw [if_pos]
      rw [show (4 : Int).toNat = 4 from rfl, show (2 : Int).toNat = 2 from rfl, l2]
      simp
def GivesSd (w : World) (L : List (List UInt8)) (m : Nat) (x : Int) (e : Ending) (w' : World) : Prop := ∃ D c, e = .returned (.tuple #[.slice D m c, .int .i64 x]) ∧ Digs w' D m L ∧ Below w.heap.size w w'
theorem sides_v (P : Option Addr) (i : Int) (L : List (List UInt8)) (m : Nat) (x : Int) (h : sidesE [[97], [98], [99]] i = (L, x)) (hm : L.length = m) (w : World) (hP : Parts w P 3 [[97], [98], [99]]) (hK : KOk w) :
    Calls Tryd.prog 16 #[.slice P 3 3, .int .i64 i] w (GivesSd w L m x) := by
  have h1 := sidesE_any P 3 3 i [[97], [98], [99]] w hP (Nat.le_refl _) hK
  rw [h] at h1
  subst hm
  exact h1.mono fun e w' ⟨D, c, a, b, _, d⟩ => ⟨D, c, a, b, d⟩
theorem sidesE_abc0 : sidesE [[97], [98], [99]] 0 = ([digOf 7 [[98]], digOf 7 [[99]]], 0) := by
  unfold sidesE
  rw [if_neg (by simp [listB_abc.1]), if_neg (by simp), show (0 : Int).toNat = 0 from rfl, sides_abc0]
theorem sidesE_abc2 : sidesE [[97], [98], [99]] 2 = ([digOf 8 [digOf 7 [[97]], digOf 7 [[98]]]], 0) := by
  unfold sidesE
  rw [if_neg (by simp [listB_abc.1]), if_neg (by simp), show (2 : Int).toNat = 2 from rfl, sides_abc2]
theorem sidesE_abc3 : sidesE [[97], [98], [99]] 3 = ([], 2) := by
  unfold sidesE
  rw [if_neg (by simp [listB_abc.1]), if_pos (by simp)]
def GivesB1 (w : World) (b : Bool) (e : Ending) (w' : World) : Prop := e = .returned (.bool b) ∧ Below w.heap.size w w'
theorem dg1 {d : List UInt8} (h : d.length = 32) : Dg [d] := fun x hx => by simp at hx; subst hx; exact h
theorem dg2 {d e : List UInt8} (h : d.length = 32) (k : e.length = 32) : Dg [d, e] := fun x hx => by simp at hx; rcases hx with rfl | rfl <;> assumption

set_option maxRecDepth 100000 in
set_option maxHeartbeats 4000000 in
theorem names13_any (w : World) (hK : KOk w) : Calls Tryd.prog 6 #[] w fun e w' => e = .returned (.bool true) ∧ Below w.heap.size w w' := by
  have HK := hid hK
  have hAl := hid (fun W (k : KOk W) => alive_any W k)
  have hS0 := hid (fun W P (h : Parts W P 3 [[97], [98], [99]]) (k : KOk W) => sides_v P 0 _ 2 0 sidesE_abc0 rfl W h k)
  have hS2 := hid (fun W P (h : Parts W P 3 [[97], [98], [99]]) (k : KOk W) => sides_v P 2 _ 1 0 sidesE_abc2 rfl W h k)
  have hS3 := hid (fun W P (h : Parts W P 3 [[97], [98], [99]]) (k : KOk W) => sides_v P 3 _ 0 2 sidesE_abc3 rfl W h k)
  have hR257 := hid (fun W P (h : Parts W P 257 (List.replicate 257 [])) (k : KOk W) => (show Calls Tryd.prog 12 #[.slice P 257 257] W (GivesVE2 W (zeros32.map bv) 8) by
    have := rootE_any P 257 257 _ W h (by omega) k
    have e : rootE (List.replicate 257 []) = (zeros32, 8) := by
      unfold rootE
      rw [listB_257]
      rfl
    rw [e] at this
    exact this))
  have hR3 := hid (fun W P (h : Parts W P 3 [[97], [98], [99]]) (k : KOk W) => (show Calls Tryd.prog 12 #[.slice P 3 3] W (GivesVE W ((rootT [[97], [98], [99]]).map bv)) by
    have := rootE_any P 3 3 [[97], [98], [99]] W h (by omega) k
    rw [rootE_of listB_abc.1] at this
    exact this))
  have hf1 := fits_true (pss := [[97], [98], [99]]) (n := 2) (p := [99]) listB_abc.1 rfl
  rw [sides_abc2] at hf1
  have nR := rootT_len [[97], [98], [99]]
  have nF := digOf_len 8 [digOf 7 [[97]], digOf 7 [[98]]]
  have nb := digOf_len 7 [[98]]
  have nc := digOf_len 7 [[99]]
  have hfb := fits_abc (rootT [[97], [98], [99]]) (digOf 8 [digOf 7 [[97]], digOf 7 [[98]]]) [99]
  have hFa := hid (fun W A S mc (h1 : Rd W 0 1 A 1 (([99] : List UInt8).map bv)) (h2 : Digs W S 1 [digOf 8 [digOf 7 [[97]], digOf 7 [[98]]]]) (k : KOk W) => (show Calls Tryd.prog 8 #[.agg ((rootT [[97], [98], [99]]).map bv).toArray, .int .i64 3, .int .i64 2, .slice A 1 1, .slice S 1 mc] W (GivesB1 W true) by
    have := fits_any _ nR 3 2 A S 1 1 1 mc [99] _ W h1 h2 (by omega) (by omega) k
    rwa [show fitsT (rootT [[97], [98], [99]]) 3 2 [99] [digOf 8 [digOf 7 [[97]], digOf 7 [[98]]]] = true from hf1] at this))
  have hFb := hid (fun W A S mc (h1 : Rd W 0 1 A 1 (([99] : List UInt8).map bv)) (h2 : Digs W S 1 [digOf 8 [digOf 7 [[97]], digOf 7 [[98]]]]) (k : KOk W) => (show Calls Tryd.prog 8 #[.agg ((rootT [[97], [98], [99]]).map bv).toArray, .int .i64 3, .int .i64 1, .slice A 1 1, .slice S 1 mc] W (GivesB1 W false) by
    have := fits_any _ nR 3 1 A S 1 1 1 mc [99] _ W h1 h2 (by omega) (by omega) k
    rwa [hfb.1] at this))
  have hFc := hid (fun W A S mc (h1 : Rd W 0 1 A 1 (([99] : List UInt8).map bv)) (h2 : Digs W S 1 [digOf 8 [digOf 7 [[97]], digOf 7 [[98]]]]) (k : KOk W) => (show Calls Tryd.prog 8 #[.agg ((rootT [[97], [98], [99]]).map bv).toArray, .int .i64 4, .int .i64 2, .slice A 1 1, .slice S 1 mc] W (GivesB1 W false) by
    have := fits_any _ nR 4 2 A S 1 1 1 mc [99] _ W h1 h2 (by omega) (by omega) k
    rwa [hfb.2] at this))
  have hSa := hid (fun W A B c d (h1 : Digs W A 2 [digOf 7 [[98]], digOf 7 [[99]]]) (h2 : Digs W B 2 [digOf 7 [[98]], digOf 7 [[99]]]) => (show Calls Tryd.prog 18 #[.slice A 2 c, .slice B 2 d] W (GivesB1 W true) by
    have := sameD_any A B 2 c 2 d _ _ W h1 h2 (by omega)
    rwa [decide_eq_true (rfl : [digOf 7 [[98]], digOf 7 [[99]]] = _)] at this))
  have hSb := hid (fun W A B c d (h1 : Digs W A 1 [digOf 8 [digOf 7 [[97]], digOf 7 [[98]]]]) (h2 : Digs W B 1 [digOf 8 [digOf 7 [[97]], digOf 7 [[98]]]]) => (show Calls Tryd.prog 18 #[.slice A 1 c, .slice B 1 d] W (GivesB1 W true) by
    have := sameD_any A B 1 c 1 d _ _ W h1 h2 (by omega)
    rwa [decide_eq_true (rfl : [digOf 8 [digOf 7 [[97]], digOf 7 [[98]]]] = _)] at this))
  have hLa := hid (fun W (k : KOk W) => leaf_v { data := #[97] } [97] rfl (by decide) W k)
  have hLb := hid (fun W (k : KOk W) => leaf_v { data := #[98] } [98] rfl (by decide) W k)
  have hLc := hid (fun W (k : KOk W) => leaf_v { data := #[99] } [99] rfl (by decide) W k)
  have hF1 := hid (fun W (k : KOk W) => (show Calls Tryd.prog 13 #[.agg ((digOf 7 [[97]]).map bv).toArray, .agg ((digOf 7 [[98]]).map bv).toArray] W (GivesV W ((digOf 8 [digOf 7 [[97]], digOf 7 [[98]]]).map bv)) from forkD_any _ _ (digOf_len _ _) (digOf_len _ _) W k))
  have hB1 := hid (fun W => dig_bslice _ nF W)
  have hB2 := hid (fun W => dig_bslice2 _ _ nb nc W)
  have hG1 := hid (fun W g (h : Blk W g 23 ((digOf 8 [digOf 7 [[97]], digOf 7 [[98]]]).map bv).toArray) => (show Digs W (some ⟨g, 0, none⟩) 1 [digOf 8 [digOf 7 [[97]], digOf 7 [[98]]]] from digs_blk _ (dg1 nF) (by simpa [dsL] using h)))
  have hG2 := hid (fun W g (h : Blk W g 23 ((digOf 7 [[98]]).map bv ++ (digOf 7 [[99]]).map bv).toArray) => (show Digs W (some ⟨g, 0, none⟩) 2 [digOf 7 [[98]], digOf 7 [[99]]] from digs_blk _ (dg2 nb nc) (by simpa [dsL] using h)))
  have zR := digZ _ nR
  have hLR : (Tryd.prog.info? 23).map (·.size) = some ((rootT [[97], [98], [99]]).map bv).toArray.size := digS _ nR
  have oR := hid (oneBv' (rootT [[97], [98], [99]]))
  have z0 := digZ zeros32 rfl
  have o0 := hid (oneBv' zeros32)
  have hrm := hid (fun W => Rd.marked W (1, 2) 1 #[.int .u8 99] [99] rfl rfl)
  have hMd := hid (fun W lo g (h : Go.Proofs.YtheljogmnalbmaaDoor.Own W lo 24 1 (some ⟨g, 0, none⟩) 257 257 (madeCells (Value.slice none 0 0).cells (257 * 1)).toList) => (show Parts W (some ⟨g, 0, none⟩) 257 (List.replicate 257 []) by
    rw [made_slices] at h
    exact parts_of_heads h (heads_made W 257)))
  have hu := Tryd.underlying23
  have kc := fun (W : World) (C : Array Value) (n c : Nat) => Lib.run_convert_bytes_const (P := Tryd.prog) W 24 5 C n c Tryd.underlying24 Tryd.underlying5
  obtain ⟨i0, hi0, hz0, hz1, hz2⟩ := info_parts slice_info
  unfold GivesB1 at hFa hFb hFc hSa hSb
  unfold GivesSd at hS0 hS2 hS3
  unfold GivesVE2 at hR257
  unfold GivesVE at hR3
  unfold GivesV at hLa hLb hLc hF1
  generalize (rootT [[97], [98], [99]]).map bv = LR at *
  generalize (digOf 7 [[97]]).map bv = La at *
  generalize (digOf 7 [[98]]).map bv = Lb at *
  generalize (digOf 7 [[99]]).map bv = Lc at *
  generalize (digOf 8 [digOf 7 [[97]], digOf 7 [[98]]]).map bv = LF at *
  generalize [digOf 8 [digOf 7 [[97]], digOf 7 [[98]]]] = DF at *
  generalize [digOf 7 [[98]], digOf 7 [[99]]] = DB at *
  generalize zeros32.map bv = L0 at *
  generalize hpl : (List.replicate 257 [] : List (List UInt8)) = PL at *
  clear hpl hf1 hfb nR nF nb nc hK
  go_enter Tryd.func6, Tryd.ntmps6
  go_upto_region 2 with (first
    | ((with_reducible refine (abc_any w).mono ?_); rintro e w1 ⟨g1, rfl, hp1, hb1⟩; have hP1 := hid hp1; clear hp1)
    | ((with_reducible refine (hS0.out w1 _ hP1.out (HK.out.below hb1)).mono ?_); rintro e w2 ⟨D0, c0, rfl, hd2, hb2⟩; have HD0 := hid hd2; clear hd2; have Y := hid (below_chain hb1 hb2)))
  have K2 := hid (HK.out.below Y.out)
  clear hb1 hb2 hP1 hS0
  go_upto_region 3 with (first
    | ((with_reducible refine (abc_any w2).mono ?_); rintro e w3 ⟨g3, rfl, hp3, hb3⟩; have hP3 := hid hp3; clear hp3)
    | ((with_reducible refine (hS2.out w3 _ hP3.out (K2.out.below hb3)).mono ?_); rintro e w4 ⟨D2, c2, rfl, hd4, hb4⟩; have HD2 := hid hd4; clear hd4; have q := below_chain hb3 hb4; have HD0 := hid (HD0.out.below q); have Y := hid (below_chain Y.out q)))
  have K4 := hid (HK.out.below Y.out)
  clear hb3 hb4 hP3 hS2 q K2
  go_upto_region 4 with (first
    | ((with_reducible refine (abc_any w4).mono ?_); rintro e w5 ⟨g5, rfl, hp5, hb5⟩; have hP5 := hid hp5; clear hp5)
    | ((with_reducible refine (hS3.out w5 _ hP5.out (K4.out.below hb5)).mono ?_); rintro e w6 ⟨D4, c4, rfl, hd6, hb6⟩; clear hd6; have q := below_chain hb5 hb6; have HD0 := hid (HD0.out.below q); have HD2 := hid (HD2.out.below q); have Y := hid (below_chain Y.out q)))
  have K6 := hid (HK.out.below Y.out)
  clear hb5 hb6 hP5 hS3 q K4
  go_upto_region 5 with (first
    | (refine wpList_mk _ rfl _ _ _ rfl w6.heap.size 24 i0 _ 1 24 Tryd.underlying27 hi0 hz0 hz1 hz2 _ _ _ _ 257 rfl rfl rfl rfl (by omega) (by simp only [maxLen]; omega) (Nat.le_refl _) ?_; intro w7 hO7 hg7; have hP7 := hid (hMd.out _ _ _ hO7); have hb7 : Below w6.heap.size w6 w7 := below_of_grown hg7 (Nat.le_refl _) (fun k e => by cases e); clear hO7 hg7)
    | ((with_reducible refine (hR257.out w7 _ hP7.out (K6.out.below hb7)).mono ?_); rintro e w8 ⟨rfl, hb8⟩)
    | ((with_reducible refine at_alloc (d := some 7) 23 ?_); refine wpList_al rfl 23 rfl zeroD (zeroD_run _) ?_; intro w9 hB9 hb9 hy; clear hy)
    | ((with_reducible refine at_store 23 ?_); refine wpList_str rfl 23 _ _ rfl w8.heap.size L0.toArray rfl rfl _ zeroD hB9 z0 zeroD_size o0.out ?_; intro wa hBa hga hy; clear hy))
  have q8a : Below w8.heap.size w8 wa := hb9.grown hga hb9.size (by intro k e; cases e; exact Nat.le_refl _)
  have q6a := below_chain hb7 (below_chain hb8 q8a)
  have HD0 := hid (HD0.out.below q6a)
  have HD2 := hid (HD2.out.below q6a)
  have Y := hid (below_chain Y.out q6a)
  have Ka := hid (HK.out.below Y.out)
  clear hB9 hb9 hga hBa hb7 hb8 q8a q6a hP7 hR257 K6 z0 o0 hMd
  go_upto_region 6 with (first
    | ((with_reducible refine (abc_any wa).mono ?_); rintro e wb ⟨gb, rfl, hpb, hbb⟩; have hPb := hid hpb; clear hpb)
    | ((with_reducible refine (hR3.out wb _ hPb.out (Ka.out.below hbb)).mono ?_); rintro e wc ⟨rfl, hbc⟩)
    | ((with_reducible refine at_alloc (d := some 9) 23 ?_); refine wpList_al rfl 23 rfl zeroD (zeroD_run _) ?_; intro wd hBd hbd hy; clear hy)
    | ((with_reducible refine at_store 23 ?_); refine wpList_str rfl 23 _ _ rfl wc.heap.size LR.toArray rfl rfl _ zeroD hBd zR zeroD_size oR.out ?_; intro we hBe hge hy; clear hy))
  have qce : Below wc.heap.size wc we := hbd.grown hge hbd.size (by intro k e; cases e; exact Nat.le_refl _)
  have qae := below_chain hbb (below_chain hbc qce)
  have HD0 := hid (HD0.out.below qae)
  have HD2 := hid (HD2.out.below qae)
  have Y := hid (below_chain Y.out qae)
  have Ke := hid (HK.out.below Y.out)
  have Xe := hid hBe
  clear hBd hbd hge hBe hbb hbc qce qae hPb hR3 Ka zR oR
  have HD2e := hid (HD2.out.below (below_alloc1 we (.cells #[.int .u8 99] 5 (1, 2))))
  go_upto_region 7 with (first
    | ((with_reducible refine at_load (d := some 37) 23 ?_); refine wpList_ldr_g (by kernel_rfl) 23 _ rfl wc.heap.size rfl _ LR.toArray _ Xe.out Tryd.underlying23 rfl hLR ?_)
    | ((with_reducible refine at_load (d := some 43) 23 ?_); refine wpList_ldr_g (by kernel_rfl) 23 _ rfl wc.heap.size rfl _ LR.toArray _ Xf.out Tryd.underlying23 rfl hLR ?_)
    | ((with_reducible refine at_load (d := some 51) 23 ?_); refine wpList_ldr_g (by kernel_rfl) 23 _ rfl wc.heap.size rfl _ LR.toArray _ Xg.out Tryd.underlying23 rfl hLR ?_)
    | ((with_reducible refine (hFa.out _ _ _ _ (hrm.out we) HD2e.out (Ke.out.al _)).mono ?_); rintro e wf ⟨rfl, hbf'⟩; have hbf := below_al hbf'; have Xf := hid (Xe.out.belowS hbf); have HD2f := hid ((HD2.out.below hbf).below (below_alloc1 wf (.cells #[.int .u8 99] 5 (1, 2)))); have Kf := hid (Ke.out.below hbf))
    | ((with_reducible refine (hFb.out _ _ _ _ (hrm.out wf) HD2f.out (Kf.out.al _)).mono ?_); rintro e wg ⟨rfl, hbg'⟩; have hbg := below_al hbg'; have Xg := hid (Xf.out.belowS hbg); have HD2g := hid (((HD2.out.below hbf).below hbg).below (below_alloc1 wg (.cells #[.int .u8 99] 5 (1, 2)))); have Kg := hid (Kf.out.below hbg))
    | ((with_reducible refine (hFc.out _ _ _ _ (hrm.out wg) HD2g.out (Kg.out.al _)).mono ?_); rintro e wh ⟨rfl, hbh'⟩; have hbh := below_al hbh'))
  have qeh := below_chain hbf (below_chain hbg hbh)
  have HD0 := hid (HD0.out.below qeh)
  have HD2 := hid (HD2.out.below qeh)
  have Y := hid (below_chain Y.out qeh)
  have Kh := hid (HK.out.below Y.out)
  clear hbf hbg hbh hbf' hbg' hbh' qeh Xe Xf Xg HD2e HD2f HD2g Kf Kg Ke hFa hFb hFc
  go_wp2_with (first
    | ((with_reducible refine (hAl.out wh Kh.out).mono ?_); rintro e wi ⟨rfl, hbi⟩; have Ki := hid (Kh.out.below hbi))
    | ((with_reducible refine (hLb.out wi Ki.out).mono ?_); rintro e wj ⟨rfl, hbj⟩; have Kj := hid (Ki.out.below hbj))
    | ((with_reducible refine (hLc.out wj Kj.out).mono ?_); rintro e wk ⟨rfl, hbk⟩; have HD0k := hid (HD0.out.below (below_chain hbi (below_chain hbj hbk))))
    | ((with_reducible refine at_bslice 25 ?_); refine wpList_bs2_g (by kernel_rfl) 25 23 2 _ _ rfl (.agg Lb.toArray) (.agg Lc.toArray) rfl rfl _ (hB2.out wk) ?_; intro wl hBl hbl; have HG2 := hid (hG2.out _ _ hBl); have HD0l := hid (HD0k.out.below hbl); clear hBl)
    | ((with_reducible refine (hSa.out wl _ _ _ _ HD0l.out HG2.out).mono ?_); rintro e wm ⟨rfl, hbm⟩; have qhm := hid (below_chain hbi (below_chain hbj (below_chain hbk (below_chain hbl hbm)))); have Km := hid (Kh.out.below qhm.out))
    | ((with_reducible refine (hLa.out wm Km.out).mono ?_); rintro e wn ⟨rfl, hbn⟩; have Kn := hid (Km.out.below hbn))
    | ((with_reducible refine (hLb.out wn Kn.out).mono ?_); rintro e wo ⟨rfl, hbo⟩; have Ko := hid (Kn.out.below hbo))
    | ((with_reducible refine (hF1.out wo Ko.out).mono ?_); rintro e wp ⟨rfl, hbp⟩; have HD2p := hid (HD2.out.below (below_chain qhm.out (below_chain hbn (below_chain hbo hbp)))))
    | ((with_reducible refine at_bslice 25 ?_); refine wpList_bs1_g (by kernel_rfl) 25 23 1 _ rfl (.agg LF.toArray) rfl _ (hB1.out wp) ?_; intro wq hBq hbq; have HG1 := hid (hG1.out _ _ hBq); have HD2q := hid (HD2p.out.below hbq); clear hBq)
    | ((with_reducible refine (hSb.out wq _ _ _ _ HD2q.out HG1.out).mono ?_); rintro e wz ⟨rfl, hbz⟩; have YZ := hid (below_chain Y.out (below_chain qhm.out (below_chain hbn (below_chain hbo (below_chain hbp (below_chain hbq hbz))))))))
  go_ret
  exact ⟨rfl, YZ.out⟩
namespace rowsNames
theorem rowsNames_law {W : World} (hK : KOk W) :
    Calls Tryd.prog 6 #[] W fun e w' => e = .returned (.bool true) ∧ Below W.heap.size W w' := names13_any W hK
end rowsNames
end Go.Proofs.YtheljogmnalbmaaDoor
