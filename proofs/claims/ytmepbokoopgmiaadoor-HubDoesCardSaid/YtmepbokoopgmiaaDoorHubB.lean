/-
  Contract of hub.Check: whether a hub may be. The gap stands in its variable.
-/
import Derived.Test.YtmepbokoopgmiaaDoorHubA
namespace Go.Proofs.YtmepbokoopgmiaaDoor
open Go.RowKit
set_option linter.unusedSimpArgs false
set_option linter.unusedVariables false

theorem two_range {w : World} {g : Nat} {t : TypeId} {cs : Array Value} (h : Blk w g t cs) (o : Nat) (l : List Value) (hl : ∀ j, j < l.length → cs[o + j]? = l[j]?) : w.rangeAt g o l := h.range_from o l hl
set_option maxHeartbeats 1000000 in
theorem hcheck_num (nx : Int) (A : Option Addr) (n c : Nat) (w : World) (h : isNum nx = false) :
    Calls Tryd.prog 13 #[.agg #[.int .i64 nx, .slice A n c]] w fun e w' => e = .returned (.int .i64 8) ∧ Below w.heap.size w w' := by
  have hN := hid (fun W => number_lit false nx h W)
  clear h
  go_enter Tryd.func13, Tryd.ntmps13
  go_wp2_with (first
    | (refine wpList_bx rfl 24 _ rfl #[.int .i64 nx, .slice A n c] rfl ?_; intro w1 hB1 hb1 hz1; obtain ⟨a0, a1, _, _⟩ := two_facts hB1)
    | ((with_reducible refine (hN.out _).mono ?_); rintro e w2 ⟨rfl, rfl⟩))
  go_ret
  exact ⟨rfl, hb1⟩
set_option maxHeartbeats 1000000 in
theorem hcheck_many (nx : Int) (A : Option Addr) (n c : Nat) (w : World) (h : isNum nx = true) (hn : 16 < n) :
    Calls Tryd.prog 13 #[.agg #[.int .i64 nx, .slice A n c]] w fun e w' => e = .returned (.int .i64 8) ∧ Below w.heap.size w w' := by
  have hN := hid (fun W => number_lit true nx h W)
  clear h
  go_enter Tryd.func13, Tryd.ntmps13
  go_wp2_with (first
    | (refine wpList_bx rfl 24 _ rfl #[.int .i64 nx, .slice A n c] rfl ?_; intro w1 hB1 hb1 hz1; obtain ⟨a0, a1, _, _⟩ := two_facts hB1)
    | ((with_reducible refine (hN.out _).mono ?_); rintro e w2 ⟨rfl, rfl⟩))
  go_ret
  exact ⟨rfl, hb1⟩

def zeroRS : RS := ((0, 0, [], false), none, 0, 0)
def lastAt (rs : List RS) (k : Nat) : Int := if k = 0 then -1 else (rs.getD (k - 1) zeroRS).1.1
theorem subs_drop {rs : List RS} {k : Nat} {r : RS} (h : rs[k]? = some r) : subs (rs.drop k) = r.1 :: subs (rs.drop (k + 1)) := by
  obtain ⟨hk, e⟩ := List.getElem?_eq_some_iff.1 h
  rw [List.drop_eq_getElem_cons hk, e]
  rfl
theorem lastAt_succ {rs : List RS} {k : Nat} {r : RS} (h : rs[k]? = some r) : lastAt rs (k + 1) = r.1.1 := by
  unfold lastAt
  rw [if_neg (by omega), Nat.add_sub_cancel, List.getD_eq_getElem?_getD, h]
  rfl

set_option maxRecDepth 100000 in
set_option maxHeartbeats 4000000 in
theorem hcheck_small (nx : Int) (A : Option Addr) (n c : Nat) (rs : List RS) (w : World) (hr : HRd w A n rs) (hG : GOk w) (hnx : isNum nx = true) (hn : n ≤ 16) :
    Calls Tryd.prog 13 #[.agg #[.int .i64 nx, .slice A n c]] w fun e w' => e = .returned (.int .i64 (errOf (subsMay nx (-1) (subs rs)))) ∧ Below w.heap.size w w' := by
  have hN := hid (fun W => number_lit true nx hnx W)
  have hl := hid hr.len
  have HR := hid hr
  have HG := hid hG
  clear hr hG hnx
  go_enter Tryd.func13, Tryd.ntmps13
  go_wp2_with (first
    | (refine wpList_bx rfl 24 _ rfl #[.int .i64 nx, .slice A n c] rfl ?_; intro w1 hB1 hb1 hz1; obtain ⟨a0, a1, _, _⟩ := two_facts hB1)
    | ((with_reducible refine (hN.out _).mono ?_); rintro e w2 ⟨rfl, rfl⟩))
  clear a0 a1
  go_loopw [3, 19] (fun l i wx => ∃ k : Nat, k ≤ n ∧ l = .int .i64 (lastAt rs k) ∧ i = .int .i64 k ∧ Blk wx w.heap.size 24 #[.int .i64 nx, .slice A n c] ∧ Below w.heap.size w wx ∧ subsMay nx (-1) (subs rs) = subsMay nx (lastAt rs k) (subs (rs.drop k))) (fun _ i _ => n - (intOf i).toNat)
  case atStart => exact ⟨0, Nat.zero_le _, rfl, rfl, hB1, hb1, rfl⟩
  case round =>
    clear hB1 hb1 hz1
    obtain ⟨k, hk, rfl, rfl, hB, hb, hS⟩ := hrel
    have HS := hid hS
    clear hS
    by_cases hlt : k < n
    · have hx : rs[k]? = some (rs[k]'(by have := hl.out; omega)) := List.getElem?_eq_getElem _
      generalize rs[k]'(by have := hl.out; omega) = r at hx
      have hL := lastAt_succ hx
      have hD := subs_drop hx
      have HX := hid hx
      obtain ⟨⟨b, o, hA, hbl, rx⟩, ho, hri⟩ := hid ((⟨(HR.out.below hb).at_ hx, ((HR.out.below hb).2 r (List.mem_of_getElem? hx))⟩ : _ ∧ _)) |>.out
      have hGr := hid (HG.out.below hb)
      have hsz := rs_size r
      obtain ⟨⟨id, fr, its, lost⟩, D, m, d⟩ := r
      simp only at hL hD ho hri
      have hK := hid (fun (q : Int) (hq : errOf (itsMay its) = q) W h k => check_lit q D m d lost its ho hq W h k)
      have HI := hid hri
      have HL := hid hL
      have HD := hid hD
      have hX0 : (rsL ((id, fr, its, lost), D, m, d)).toArray.size = zeroS.size := rfl
      have hXo : ∀ v ∈ (rsL ((id, fr, its, lost), D, m, d)).toArray, v.oneCell' = true := fun v hv => rsL_one _ v (by simpa using hv)
      have hzs := zeroS_run
      have hsA : (Tryd.prog.info? 53).map (·.size) = some zeroS.size := sub_size _ _ _ _
      subst hA
      obtain ⟨ad, had⟩ : ∃ ad, o + k * 4 = ad := ⟨_, rfl⟩
      rw [had] at rx
      have hf : Hid (∀ w' w5, Below wr.heap.size wr w' → w'.grownBy w5 (some wr.heap.size) → Blk w5 wr.heap.size 53 (rsL ((id, fr, its, lost), D, m, d)).toArray → Below wr.heap.size wr w5 ∧ w5.cell? ⟨wr.heap.size, 0, none⟩ = some (.int .i64 id) ∧ w5.cell? ⟨wr.heap.size, 1, none⟩ = some (.int .i64 fr) ∧ w5.cell? ⟨wr.heap.size, 2, none⟩ = some (.slice D m d) ∧ w5.cell? ⟨wr.heap.size, 3, none⟩ = some (.bool lost) ∧ Blk w5 w.heap.size 24 #[.int .i64 nx, .slice (some ⟨b, o, none⟩) n c]) := hid fun w' w5 h1 h2 h3 => by
        have hb5 : Below wr.heap.size wr w5 := h1.grown h2 h1.size (by intro g e; cases e; exact Nat.le_refl _)
        exact ⟨hb5, h3.cellv rfl, h3.cellv rfl, h3.cellv rfl, h3.cellv rfl, hB.belowS hb5⟩
      have hti : (k : Int) < (n : Int) := by omega
      have htz : (0 : Int) ≤ (k : Int) := by omega
      clear hx hL hD ho hri
      generalize hla : lastAt rs k = la at *
      have HLa := hid hla
      clear hla
      by_cases t1 : id ≤ la
      · have e1 : decide (la < id) = false := decide_eq_false (by omega)
        go_wp2_with (first
        | ((with_reducible refine at_load 53 ?_); refine wpList_load_mid rfl 53 _ rfl b ad rfl _ _ rx Tryd.underlying53 rfl hsz ?_)
        | ((with_reducible refine at_alloc 53 ?_); refine wpList_al rfl 53 rfl zeroS (hzs _) ?_; intro w4 hX4 hb4 hz4)
        | ((with_reducible refine at_store 53 ?_); refine wpList_str rfl 53 _ _ rfl wr.heap.size (rsL ((id, fr, its, lost), D, m, d)).toArray rfl rfl _ zeroS hX4 hX0 hsA hXo ?_; intro w5 hX5 hg5 hz5; obtain ⟨hb5, d0, d1, d2, d3, hB5⟩ := hf.out w4 w5 hb4 hg5 hX5; obtain ⟨a0, a1, _, _⟩ := two_facts hB5))
        go_ret
        rw [HS.out, HD.out]
        unfold subsMay subMay
        simp only [e1, Bool.false_and]
        exact ⟨rfl, hb.trans (hb5.mono hb.size)⟩
      by_cases t2 : nx ≤ id
      · have e1 : decide (id < nx) = false := decide_eq_false (by omega)
        go_wp2_with (first
        | ((with_reducible refine at_load 53 ?_); refine wpList_load_mid rfl 53 _ rfl b ad rfl _ _ rx Tryd.underlying53 rfl hsz ?_)
        | ((with_reducible refine at_alloc 53 ?_); refine wpList_al rfl 53 rfl zeroS (hzs _) ?_; intro w4 hX4 hb4 hz4)
        | ((with_reducible refine at_store 53 ?_); refine wpList_str rfl 53 _ _ rfl wr.heap.size (rsL ((id, fr, its, lost), D, m, d)).toArray rfl rfl _ zeroS hX4 hX0 hsA hXo ?_; intro w5 hX5 hg5 hz5; obtain ⟨hb5, d0, d1, d2, d3, hB5⟩ := hf.out w4 w5 hb4 hg5 hX5; obtain ⟨a0, a1, _, _⟩ := two_facts hB5))
        go_ret
        rw [HS.out, HD.out]
        unfold subsMay subMay
        simp only [e1, Bool.false_and, Bool.and_false]
        exact ⟨rfl, hb.trans (hb5.mono hb.size)⟩
      cases t3 : isNum fr
      · have hF := hid (fun W => number_lit false fr t3 W)
        have e1 := hid t3
        clear t3
        go_wp2_with (first
        | ((with_reducible refine at_load 53 ?_); refine wpList_load_mid rfl 53 _ rfl b ad rfl _ _ rx Tryd.underlying53 rfl hsz ?_)
        | ((with_reducible refine at_alloc 53 ?_); refine wpList_al rfl 53 rfl zeroS (hzs _) ?_; intro w4 hX4 hb4 hz4)
        | ((with_reducible refine at_store 53 ?_); refine wpList_str rfl 53 _ _ rfl wr.heap.size (rsL ((id, fr, its, lost), D, m, d)).toArray rfl rfl _ zeroS hX4 hX0 hsA hXo ?_; intro w5 hX5 hg5 hz5; obtain ⟨hb5, d0, d1, d2, d3, hB5⟩ := hf.out w4 w5 hb4 hg5 hX5; obtain ⟨a0, a1, _, _⟩ := two_facts hB5)
        | ((with_reducible refine (hF.out _).mono ?_); rintro e w6 ⟨rfl, rfl⟩))
        go_ret
        rw [HS.out, HD.out]
        unfold subsMay subMay
        simp only [e1.out, Bool.false_and, Bool.and_false]
        exact ⟨rfl, hb.trans (hb5.mono hb.size)⟩
      have hF := hid (fun W => number_lit true fr t3 W)
      have E3 := hid t3
      clear t3
      cases t4 : itsMay its
      · have hKq := hid (fun W h k => hK.out 8 (by rw [t4]; rfl) W h k)
        have e1 := hid t4
        clear t4 hK
        go_wp2_with (first
        | ((with_reducible refine at_load 53 ?_); refine wpList_load_mid rfl 53 _ rfl b ad rfl _ _ rx Tryd.underlying53 rfl hsz ?_)
        | ((with_reducible refine at_alloc 53 ?_); refine wpList_al rfl 53 rfl zeroS (hzs _) ?_; intro w4 hX4 hb4 hz4)
        | ((with_reducible refine at_store 53 ?_); refine wpList_str rfl 53 _ _ rfl wr.heap.size (rsL ((id, fr, its, lost), D, m, d)).toArray rfl rfl _ zeroS hX4 hX0 hsA hXo ?_; intro w5 hX5 hg5 hz5; obtain ⟨hb5, d0, d1, d2, d3, hB5⟩ := hf.out w4 w5 hb4 hg5 hX5; obtain ⟨a0, a1, _, _⟩ := two_facts hB5)
        | ((with_reducible refine (hF.out _).mono ?_); rintro e w6 ⟨rfl, rfl⟩)
        | ((with_reducible refine (hKq.out _ ((HI.out.below hb5)) (hGr.out.below hb5)).mono ?_); rintro e w7 ⟨rfl, hb7⟩; clear d0 d1 d2 d3 a0 a1; have d0 := (hX5.belowS hb7).cellv (i := 0) (v := .int .i64 id) rfl; have hB7 := hB5.belowS hb7))
        go_ret
        rw [HS.out, HD.out]
        unfold subsMay subMay
        simp only [e1.out, Bool.false_and, Bool.and_false]
        exact ⟨rfl, hb.trans ((hb5.trans (hb7.mono hb5.size)).mono hb.size)⟩
      · have hKq := hid (fun W h k => hK.out 0 (by rw [t4]; rfl) W h k)
        have E4 := hid t4
        clear t4 hK
        go_wp2_with (first
        | ((with_reducible refine at_load 53 ?_); refine wpList_load_mid rfl 53 _ rfl b ad rfl _ _ rx Tryd.underlying53 rfl hsz ?_)
        | ((with_reducible refine at_alloc 53 ?_); refine wpList_al rfl 53 rfl zeroS (hzs _) ?_; intro w4 hX4 hb4 hz4)
        | ((with_reducible refine at_store 53 ?_); refine wpList_str rfl 53 _ _ rfl wr.heap.size (rsL ((id, fr, its, lost), D, m, d)).toArray rfl rfl _ zeroS hX4 hX0 hsA hXo ?_; intro w5 hX5 hg5 hz5; obtain ⟨hb5, d0, d1, d2, d3, hB5⟩ := hf.out w4 w5 hb4 hg5 hX5; obtain ⟨a0, a1, _, _⟩ := two_facts hB5)
        | ((with_reducible refine (hF.out _).mono ?_); rintro e w6 ⟨rfl, rfl⟩)
        | ((with_reducible refine (hKq.out _ ((HI.out.below hb5)) (hGr.out.below hb5)).mono ?_); rintro e w7 ⟨rfl, hb7⟩; clear d0 d1 d2 d3 a0 a1; have d0 := (hX5.belowS hb7).cellv (i := 0) (v := .int .i64 id) rfl; have hB7 := hB5.belowS hb7))
        refine ⟨⟨k + 1, by omega, by rw [HL.out], by go_num, hB7, hb.trans ((hb5.trans (hb7.mono hb5.size)).mono hb.size), ?_⟩, by simp [intOf]; omega⟩
        rw [HS.out, HD.out, HL.out]
        have e1 : decide (la < id) = true := decide_eq_true (by omega)
        have e2 : decide (id < nx) = true := decide_eq_true (by omega)
        show (subMay nx la (id, fr, its, lost) && subsMay nx id _) = _
        unfold subMay
        simp only [e1, e2, E3.out, E4.out, Bool.true_and]
    · obtain rfl : k = n := by omega
      have hti : ¬ (k : Int) < (k : Int) := by omega
      go_wp2
      go_ret
      rw [HS.out, List.drop_of_length_le (by have := hl.out; omega)]
      exact ⟨rfl, hb⟩
theorem hcheck_any (nx : Int) (A : Option Addr) (n c : Nat) (rs : List RS) (w : World) (hr : HRd w A n rs) (hG : GOk w) :
    Calls Tryd.prog 13 #[.agg #[.int .i64 nx, .slice A n c]] w fun e w' => e = .returned (.int .i64 (errOf (hubMay (nx, subs rs)))) ∧ Below w.heap.size w w' := by
  have hl : (subs rs).length = n := by simpa [subs] using hr.len
  unfold hubMay
  cases h1 : isNum nx with
  | false => exact hcheck_num nx A n c w h1
  | true =>
    by_cases h2 : 16 < n
    · rw [decide_eq_false (by simp only; omega)]
      exact hcheck_many nx A n c w h1 h2
    · rw [decide_eq_true (by simp only; omega)]
      exact hcheck_small nx A n c rs w hr hG h1 (by omega)
theorem hcheck_lit (q : Int) (nx : Int) (A : Option Addr) (n c : Nat) (rs : List RS) (hq : errOf (hubMay (nx, subs rs)) = q) (w : World) (hr : HRd w A n rs) (hG : GOk w) :
    Calls Tryd.prog 13 #[.agg #[.int .i64 nx, .slice A n c]] w fun e w' => e = .returned (.int .i64 q) ∧ Below w.heap.size w w' := by
  subst hq
  exact hcheck_any nx A n c rs w hr hG
end Go.Proofs.YtmepbokoopgmiaaDoor
