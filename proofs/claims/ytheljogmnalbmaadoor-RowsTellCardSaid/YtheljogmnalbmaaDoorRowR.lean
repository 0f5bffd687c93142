/-
  The law RowsTrue walked, at any rows and place.
-/
import Derived.Test.YtheljogmnalbmaaDoorRowL
import Derived.Test.YtheljogmnalbmaaDoorRowM
import Derived.Test.YtheljogmnalbmaaDoorRowQ
namespace Go.Proofs.YtheljogmnalbmaaDoor
open Go.RowKit
set_option linter.unusedSimpArgs false
set_option linter.unusedVariables false

theorem fits_true {pss : List (List UInt8)} {n : Nat} {p : List UInt8} (hb : listB pss = true) (hp : pss[n]? = some p) : fitsT (rootT pss) (pss.length : Int) (n : Int) p (sidesT pss n) = true := by
  obtain ⟨h1, h2⟩ := listB_parts hb
  have hn : n < pss.length := (List.getElem?_eq_some_iff.1 hp).1
  have h3 := h2 p (List.mem_of_getElem? hp)
  obtain ⟨f1, f2⟩ := sides_fit pss.length pss n p (Nat.le_refl _) hp
  unfold fitsT
  rw [if_neg (by omega)]
  simp only [Int.toNat_natCast]
  rw [if_neg (fun k => k f1.symm)]
  exact decide_eq_true f2
theorem great30 (P : Option Addr) (np pc : Nat) (pss : List (List UInt8)) (w : World) (hP : Parts w P np pss) (b : Bool) (hb : greatB 30 pss = b) :
    Calls Tryd.prog 11 #[.slice P np pc, .int .i64 30] w fun e w' => e = .returned (.bool b) ∧ w' = w := great_any P np pc 30 (by omega) pss w hP b hb
def GivesVE2 (w : World) (L : List Value) (x : Int) (e : Ending) (w' : World) : Prop := e = .returned (.tuple #[.agg L.toArray, .int .i64 x]) ∧ Below w.heap.size w w'
theorem root_v2 (P : Option Addr) (np pc : Nat) (pss : List (List UInt8)) (w : World) (hP : Parts w P np pss) (hpc : np ≤ pc) (hK : KOk w) : Calls Tryd.prog 12 #[.slice P np pc] w (GivesVE2 w ((rootE pss).1.map bv) (rootE pss).2) := rootE_any P np pc pss w hP hpc hK

set_option maxRecDepth 100000 in
set_option maxHeartbeats 4000000 in
theorem true_great (P : Option Addr) (np pc : Nat) (i : Int) (l : List (List UInt8)) (w : World) (hP : Parts w P np l) (hK : KOk w) (h : greatB 30 l = true) :
    Calls Tryd.prog 7 #[.slice P np pc, .int .i64 i] w fun e w' => e = .returned (.bool true) ∧ Below w.heap.size w w' := by
  have HP := hid hP
  have hAl := hid (alive_any w hK)
  have hG1 := hid (fun W (h : Parts W P np l) => great30 P np pc l W h _ rfl)
  rw [h] at hG1
  clear hP hK h
  go_enter Tryd.func7, Tryd.ntmps7
  go_wp2_with (first
    | ((with_reducible refine hAl.out.mono ?_); rintro e w1 ⟨rfl, hb1⟩)
    | ((with_reducible refine (hG1.out _ (HP.out.below hb1)).mono ?_); rintro e w2 ⟨rfl, hv⟩; subst hv))
  go_ret
  exact ⟨rfl, hb1⟩

theorem true_cases (l : List (List UInt8)) (i : Int) : ((rootE l).2 = 8 ∧ sidesE l i = ([], 8)) ∨ ((rootE l).2 = 0 ∧ sidesE l i = ([], 2)) ∨ (listB l = true ∧ 0 ≤ i ∧ i < l.length) := by
  unfold rootE sidesE
  cases hb : listB l
  · exact .inl ⟨rfl, rfl⟩
  · by_cases hi : i < 0 ∨ i ≥ l.length
    · exact .inr (.inl ⟨rfl, by rw [if_neg (by simp), if_pos hi]⟩)
    · exact .inr (.inr ⟨rfl, by omega, by omega⟩)

set_option maxRecDepth 100000 in
set_option maxHeartbeats 4000000 in
theorem true_not (P : Option Addr) (np pc : Nat) (i : Int) (l : List (List UInt8)) (w : World) (hP : Parts w P np l) (hpc : np ≤ pc) (hK : KOk w) (h : greatB 30 l = false) (hc : ((rootE l).2 = 8 ∧ sidesE l i = ([], 8)) ∨ ((rootE l).2 = 0 ∧ sidesE l i = ([], 2))) :
    Calls Tryd.prog 7 #[.slice P np pc, .int .i64 i] w fun e w' => e = .returned (.bool true) ∧ Below w.heap.size w w' := by
  have HP := hid hP
  have HK := hid hK
  have hAl := hid (alive_any w hK)
  have hG1 := hid (fun W (h : Parts W P np l) => great30 P np pc l W h _ rfl)
  rw [h] at hG1
  have hR1 := hid (fun W (h : Parts W P np l) (k : KOk W) => root_v2 P np pc l W h hpc k)
  have hS1 := hid (fun W (h : Parts W P np l) (k : KOk W) => sidesE_any P np pc i l W h hpc k)
  have n1 := rootE_len l
  generalize rootE l = E1 at *
  generalize sidesE l i = E2 at *
  obtain ⟨d1, e1⟩ := E1
  obtain ⟨L2, e2⟩ := E2
  dsimp only at *
  have z1 := digZ _ n1
  have o1 := hid (oneBv' d1)
  unfold GivesVE2 at hR1
  unfold GivesDsE at hS1
  dsimp only at *
  clear hP hK h
  rcases hc with ⟨rfl, hc⟩ | ⟨rfl, hc⟩
  all_goals
    obtain ⟨rfl, rfl⟩ := Prod.mk.inj hc
    clear hc
    generalize d1.map bv = L1 at *
    go_enter Tryd.func7, Tryd.ntmps7
    go_wp2_with (first
      | ((with_reducible refine hAl.out.mono ?_); rintro e w1 ⟨rfl, hb1⟩)
      | ((with_reducible refine (hG1.out _ (HP.out.below hb1)).mono ?_); rintro e v2 ⟨rfl, hv⟩; subst hv)
      | ((with_reducible refine (hR1.out _ (HP.out.below hb1) (HK.out.below hb1)).mono ?_); rintro e w2 ⟨rfl, hb2⟩)
      | ((with_reducible refine at_alloc (d := some 6) 23 ?_); refine wpList_al rfl 23 rfl zeroD (zeroD_run _) ?_; intro w3 hB3 hb3 hy; clear hy)
      | ((with_reducible refine at_store 23 ?_); refine wpList_str rfl 23 _ _ rfl w2.heap.size L1.toArray rfl rfl _ zeroD hB3 z1 zeroD_size o1.out ?_; intro w4 hB4 hg4 hy; clear hy; have q24 : Below w2.heap.size w2 w4 := hb3.grown hg4 hb3.size (by intro k e; cases e; exact Nat.le_refl _); have Y := hid (below_chain hb1 (below_chain hb2 q24)))
      | ((with_reducible refine (hS1.out _ (HP.out.below Y.out) (HK.out.below Y.out)).mono ?_); rintro e w5 ⟨D5, c5, rfl, hD5, hc5, hb5⟩; have Y5 := hid (below_chain Y.out hb5)))
    go_ret
    exact ⟨rfl, Y5.out⟩

set_option maxRecDepth 100000 in
set_option maxHeartbeats 8000000 in
theorem true_ok (P : Option Addr) (np pc n : Nat) (l : List (List UInt8)) (w : World) (hP : Parts w P np l) (hpc : np ≤ pc) (hK : KOk w) (h : greatB 30 l = false) (hb : listB l = true) (hn : n < np) :
    Calls Tryd.prog 7 #[.slice P np pc, .int .i64 n] w fun e w' => e = .returned (.bool true) ∧ Below w.heap.size w w' := by
  have hle := hP.1
  obtain ⟨g1, g2⟩ := greatB_parts h
  obtain ⟨b, o, A, nr, c, p, rfl, hbl, hcell, hp, hpm, hpl, hr⟩ := hP.at_ hn
  have hpn : l[n]? = some p := by
    rw [List.getElem?_eq_getElem (by omega), ← hp, List.getD_eq_getElem?_getD, List.getElem?_eq_getElem (by omega)]
    rfl
  have hft := fits_true hb hpn
  rw [hle] at hft
  have hm8 := sides_len8 (pss := l) (i := n) (by omega) (by omega)
  have hnr : nr ≤ 5000 := by have := (listB_parts hb).2 p hpm; omega
  have HP := hid hP
  have HK := hid hK
  have hAl := hid (alive_any w hK)
  have hG1 := hid (fun W (h : Parts W (some ⟨b, o, none⟩) np l) => great30 (some ⟨b, o, none⟩) np pc l W h _ rfl)
  rw [h] at hG1
  have hR1 := hid (fun W (h : Parts W (some ⟨b, o, none⟩) np l) (k : KOk W) => root_v2 (some ⟨b, o, none⟩) np pc l W h hpc k)
  have hS1 := hid (fun W (h : Parts W (some ⟨b, o, none⟩) np l) (k : KOk W) => sidesE_any (some ⟨b, o, none⟩) np pc n l W h hpc k)
  have eR : rootE l = (rootT l, 0) := rootE_of hb
  have eS : sidesE l n = (sidesT l n, 0) := by
    unfold sidesE
    rw [if_neg (by simp [hb]), if_neg (by omega)]
    rfl
  rw [eR] at hR1
  rw [eS] at hS1
  have n1 := rootT_len l
  have hFi := hid (fun W S mc (h1 : Rd W 0 1 A nr (p.map bv)) (h2 : Digs W S (sidesT l n).length (sidesT l n)) (k : KOk W) => fits_any (rootT l) n1 (np : Int) (n : Int) A S nr c (sidesT l n).length mc p (sidesT l n) W h1 h2 hnr (by omega) k)
  rw [hft] at hFi
  unfold GivesVE2 at hR1
  unfold GivesDsE at hS1
  unfold GivesBo at hFi
  dsimp only at hR1 hS1 hFi
  have HR := hid hr
  have z1 := digZ _ n1
  have o1 := hid (oneBv' (rootT l))
  have hL1 : (Tryd.prog.info? 23).map (·.size) = some ((rootT l).map bv).length := by rw [digS _ n1, List.size_toArray]
  have hu := Tryd.underlying23
  obtain ⟨ad, had⟩ : ∃ ad, o + n = ad := ⟨_, rfl⟩
  rw [had] at hcell
  have hcw := hid (fun W (h : Below w.heap.size w W) => (World.cell?_of_block (a := ⟨b, ad, none⟩) (h.block b hbl)).trans hcell)
  have t1 : (n : Int) < np := by omega
  have t2 : (0 : Int) ≤ n := by omega
  have t3 : (np : Int) ≤ 1000 := by omega
  generalize (rootT l).map bv = L1 at *
  generalize sidesT l n = L2 at *
  obtain ⟨m, hm⟩ : ∃ m, L2.length = m := ⟨_, rfl⟩
  rw [hm] at hS1 hFi hm8
  have t4 : (m : Int) ≤ 8 := by omega
  clear hP hK h hb hft hp hpm hpl hr hpn eR eS n1 g2 hcell hm
  go_enter Tryd.func7, Tryd.ntmps7
  go_upto_region 8 with (first
    | ((with_reducible refine hAl.out.mono ?_); rintro e w1 ⟨rfl, hb1⟩)
    | ((with_reducible refine (hG1.out _ (HP.out.below hb1)).mono ?_); rintro e v2 ⟨rfl, hv⟩; subst hv)
    | ((with_reducible refine (hR1.out _ (HP.out.below hb1) (HK.out.below hb1)).mono ?_); rintro e w2 ⟨rfl, hb2⟩)
    | ((with_reducible refine at_alloc (d := some 6) 23 ?_); refine wpList_al rfl 23 rfl zeroD (zeroD_run _) ?_; intro w3 hB3 hb3 hy; clear hy)
    | ((with_reducible refine at_store 23 ?_); refine wpList_str rfl 23 _ _ rfl w2.heap.size L1.toArray rfl rfl _ zeroD hB3 z1 zeroD_size o1.out ?_; intro w4 hB4 hg4 hy; clear hy; have q24 : Below w2.heap.size w2 w4 := hb3.grown hg4 hb3.size (by intro k e; cases e; exact Nat.le_refl _); have Y := hid (below_chain hb1 (below_chain hb2 q24)))
    | ((with_reducible refine (hS1.out _ (HP.out.below Y.out) (HK.out.below Y.out)).mono ?_); rintro e w5 ⟨D5, c5, rfl, hD5, hc5, hb5⟩; have X1 := hid (hB4.belowS hb5).drew; have Y5 := hid (below_drew1 (below_chain Y.out hb5)); have HD := hid (show Digs w5.drew D5 m L2 from hD5); clear hD5 hb5))
  have hr0 : w5.drew.rangeAt w2.heap.size 0 L1 ∧ w5.drew.cell? ⟨b, ad, none⟩ = some (.slice A nr c) := ⟨by have := X1.out.range; simpa using this, hcw.out _ Y5.out⟩
  refine wp_region_held_drew (S := (fun w' => w'.rangeAt w2.heap.size 0 L1 ∧ w'.cell? ⟨b, ad, none⟩ = some (.slice A nr c))) (by kernel_rfl) hr0 (fun hHeld => ?_)
  refine reg_take (v := ?_) 0 rfl (by kernel_rfl) (by kernel_rfl) (by kernel_rfl) (fun _ _ _ h => h) (Or.inl ⟨by rfl, ?_⟩) (by assumption) ?_; rotate_left; (intro w hSw; (try dsimp only at hSw); go_simp); (try with_reducible rfl); (try simp only [Act.put, List.setIfInBounds_toArray, List.set_cons_zero, List.set_cons_succ])
  refine reg_take (v := ?_) 1 rfl (by kernel_rfl) (by kernel_rfl) (by kernel_rfl) (fun _ _ _ h => h) (Or.inl ⟨by rfl, ?_⟩) (by assumption) ?_; rotate_left; (intro w hSw; (try dsimp only at hSw); go_simp); (try with_reducible rfl); (try simp only [Act.put, List.setIfInBounds_toArray, List.set_cons_zero, List.set_cons_succ])
  refine reg_take (v := ?_) 2 rfl (by kernel_rfl) (by kernel_rfl) (by kernel_rfl) (fun _ _ _ h => h) (Or.inl ⟨by rfl, ?_⟩) (by assumption) ?_; rotate_left; (intro w hSw; (try dsimp only at hSw); go_simp); (try with_reducible rfl); (try simp only [Act.put, List.setIfInBounds_toArray, List.set_cons_zero, List.set_cons_succ])
  refine reg_take (v := ?_) 3 rfl (by kernel_rfl) (by kernel_rfl) (by kernel_rfl) (fun _ _ _ h => h) (Or.inl ⟨by rfl, ?_⟩) (by assumption) ?_; rotate_left; (intro w hSw; (try dsimp only at hSw); go_simp); (try with_reducible rfl); (try simp only [Act.put, List.setIfInBounds_toArray, List.set_cons_zero, List.set_cons_succ])
  refine reg_take (v := ?_) 4 rfl (by kernel_rfl) (by kernel_rfl) (by kernel_rfl) (fun _ _ _ h => h) (Or.inl ⟨by rfl, ?_⟩) (by assumption) ?_; rotate_left; (intro w hSw; (try dsimp only at hSw); go_simp); (try with_reducible rfl); (try simp only [Act.put, List.setIfInBounds_toArray, List.set_cons_zero, List.set_cons_succ])
  refine reg_take (v := ?_) 5 rfl (by kernel_rfl) (by kernel_rfl) (by kernel_rfl) (fun _ _ _ h => h) (Or.inl ⟨by rfl, ?_⟩) (by assumption) ?_; rotate_left; (intro w hSw; (try dsimp only at hSw); go_simp); (try with_reducible rfl); (try simp only [Act.put, List.setIfInBounds_toArray, List.set_cons_zero, List.set_cons_succ])
  refine reg_take (v := ?_) 6 rfl (by kernel_rfl) (by kernel_rfl) (by kernel_rfl) (fun _ _ _ h => h) (Or.inl ⟨by rfl, ?_⟩) (by assumption) ?_; rotate_left; (intro w hSw; (try dsimp only at hSw); go_simp); (try with_reducible rfl); (try simp only [Act.put, List.setIfInBounds_toArray, List.set_cons_zero, List.set_cons_succ])
  refine reg_take (v := ?_) 7 rfl (by kernel_rfl) (by kernel_rfl) (by kernel_rfl) (fun _ _ _ h => h) (Or.inl ⟨by rfl, ?_⟩) (by assumption) ?_; rotate_left; (intro w hSw; (try dsimp only at hSw); go_simp); (try with_reducible rfl); (try simp only [Act.put, List.setIfInBounds_toArray, List.set_cons_zero, List.set_cons_succ])
  refine reg_take (v := ?_) 8 rfl (by kernel_rfl) (by kernel_rfl) (by kernel_rfl) (fun _ _ _ h => h) (Or.inl ⟨by rfl, ?_⟩) (by assumption) ?_; rotate_left; (intro w hSw; (try dsimp only at hSw); go_simp); (try with_reducible rfl); (try simp only [Act.put, List.setIfInBounds_toArray, List.set_cons_zero, List.set_cons_succ])
  refine reg_take (v := ?_) 9 rfl (by kernel_rfl) (by kernel_rfl) (by kernel_rfl) (fun _ _ _ h => h) (Or.inl ⟨by rfl, ?_⟩) (by assumption) ?_; rotate_left; (intro w hSw; (try dsimp only at hSw); go_simp); (try with_reducible rfl); (try simp only [Act.put, List.setIfInBounds_toArray, List.set_cons_zero, List.set_cons_succ])
  refine reg_take (v := ?_) 10 rfl (by kernel_rfl) (by kernel_rfl) (by kernel_rfl) (fun _ _ _ h => h) (Or.inl ⟨by rfl, ?_⟩) (by assumption) ?_; rotate_left; (intro w hSw; (try dsimp only at hSw); go_simp); (try with_reducible rfl); (try simp only [Act.put, List.setIfInBounds_toArray, List.set_cons_zero, List.set_cons_succ])
  refine reg_take (v := ?_) 11 rfl (by kernel_rfl) (by kernel_rfl) (by kernel_rfl) (fun _ _ _ h => h) (Or.inl ⟨by rfl, ?_⟩) (by assumption) ?_; rotate_left; (intro w hSw; (try dsimp only at hSw); go_simp); (try with_reducible rfl); (try simp only [Act.put, List.setIfInBounds_toArray, List.set_cons_zero, List.set_cons_succ])
  refine reg_take (v := ?_) 12 rfl (by kernel_rfl) (by kernel_rfl) (by kernel_rfl) (fun _ _ _ h => h) (Or.inl ⟨by rfl, ?_⟩) (by assumption) ?_; rotate_left; (intro w hSw; (try dsimp only at hSw); go_simp); (try with_reducible rfl); (try simp only [Act.put, List.setIfInBounds_toArray, List.set_cons_zero, List.set_cons_succ])
  refine reg_take (v := ?_) 13 rfl (by kernel_rfl) (by kernel_rfl) (by kernel_rfl) (fun _ _ _ h => h) (Or.inl ⟨by rfl, ?_⟩) (by assumption) ?_; rotate_left; (intro w hSw; (try dsimp only at hSw); go_simp); (try with_reducible rfl); (try simp only [Act.put, List.setIfInBounds_toArray, List.set_cons_zero, List.set_cons_succ])
  refine reg_take (v := ?_) 14 rfl (by kernel_rfl) (by kernel_rfl) (by kernel_rfl) (fun _ _ _ h => h) (Or.inl ⟨by rfl, ?_⟩) (by assumption) ?_; rotate_left; (intro w hSw; (try dsimp only at hSw); go_simp); (try with_reducible rfl); (try simp only [Act.put, List.setIfInBounds_toArray, List.set_cons_zero, List.set_cons_succ])
  refine reg_take (v := ?_) 15 rfl (by kernel_rfl) (by kernel_rfl) (by kernel_rfl) (fun _ _ _ h => h) (Or.inl ⟨by rfl, ?_⟩) (by assumption) ?_; rotate_left; (intro w hSw; (try dsimp only at hSw); go_simp); (try with_reducible rfl); (try simp only [Act.put, List.setIfInBounds_toArray, List.set_cons_zero, List.set_cons_succ])
  refine reg_take (v := ?_) 16 rfl (by kernel_rfl) (by kernel_rfl) (by kernel_rfl) (fun _ _ _ h => h) (Or.inl ⟨by rfl, ?_⟩) (by assumption) ?_; rotate_left; (intro w hSw; (try dsimp only at hSw); go_simp); (try with_reducible rfl); (try simp only [Act.put, List.setIfInBounds_toArray, List.set_cons_zero, List.set_cons_succ])
  refine reg_take (v := ?_) 17 rfl (by kernel_rfl) (by kernel_rfl) (by kernel_rfl) (fun _ _ _ h => h) (Or.inl ⟨by rfl, ?_⟩) (by assumption) ?_; rotate_left; (intro w hSw; (try dsimp only at hSw); go_simp); (try with_reducible rfl); (try simp only [Act.put, List.setIfInBounds_toArray, List.set_cons_zero, List.set_cons_succ])
  refine reg_take (v := ?_) 18 rfl (by kernel_rfl) (by kernel_rfl) (by kernel_rfl) (fun _ _ _ h => h) (Or.inl ⟨by rfl, ?_⟩) (by assumption) ?_; rotate_left; (intro w hSw; (try dsimp only at hSw); go_simp); (try with_reducible rfl); (try simp only [Act.put, List.setIfInBounds_toArray, List.set_cons_zero, List.set_cons_succ])
  refine reg_take (v := ?_) 19 rfl (by kernel_rfl) (by kernel_rfl) (by kernel_rfl) (fun _ _ _ h => h) (Or.inl ⟨by rfl, ?_⟩) (by assumption) ?_; rotate_left; (intro w hSw; (try dsimp only at hSw); go_simp); (try with_reducible rfl); (try simp only [Act.put, List.setIfInBounds_toArray, List.set_cons_zero, List.set_cons_succ])
  refine reg_take (v := ?_) 20 rfl (by kernel_rfl) (by kernel_rfl) (by kernel_rfl) (fun _ _ _ h => h) (Or.inl ⟨by rfl, ?_⟩) (by assumption) ?_; rotate_left; (intro w hSw; (try dsimp only at hSw); go_simp); (try with_reducible rfl); (try simp only [Act.put, List.setIfInBounds_toArray, List.set_cons_zero, List.set_cons_succ])
  refine reg_take 21 rfl (by kernel_rfl) (by kernel_rfl) (by kernel_rfl) (fun _ _ _ h => h) (yieldsIf_load_mid (by rfl) _ _ rfl _ _ rfl _ _ (by intro w hSw; (try dsimp only at hSw); go_split_ands; assumption) (by assumption) (by rfl) (by assumption)) (by assumption) ?_; (try simp only [Act.put, List.setIfInBounds_toArray, List.set_cons_zero, List.set_cons_succ])
  refine reg_take (v := ?_) 22 rfl (by kernel_rfl) (by kernel_rfl) (by kernel_rfl) (fun _ _ _ h => h) (Or.inl ⟨by rfl, ?_⟩) (by assumption) ?_; rotate_left; (intro w hSw; (try dsimp only at hSw); go_simp); (try with_reducible rfl); (try simp only [Act.put, List.setIfInBounds_toArray, List.set_cons_zero, List.set_cons_succ])
  refine reg_take (v := ?_) 23 rfl (by kernel_rfl) (by kernel_rfl) (by kernel_rfl) (fun _ _ _ h => h) (Or.inl ⟨by rfl, ?_⟩) (by assumption) ?_; rotate_left; (intro w hSw; (try dsimp only at hSw); go_simp); (try with_reducible rfl); (try simp only [Act.put, List.setIfInBounds_toArray, List.set_cons_zero, List.set_cons_succ])
  refine reg_take (v := ?_) 24 rfl (by kernel_rfl) (by kernel_rfl) (by kernel_rfl) (fun _ _ _ h => h) (Or.inl ⟨by rfl, ?_⟩) (by assumption) ?_; rotate_left; (intro w hSw; (try dsimp only at hSw); go_simp); (try with_reducible rfl); (try simp only [Act.put, List.setIfInBounds_toArray, List.set_cons_zero, List.set_cons_succ])
  refine reg_take (v := ?_) 25 rfl (by kernel_rfl) (by kernel_rfl) (by kernel_rfl) (fun _ _ _ h => h) (Or.inl ⟨by rfl, ?_⟩) (by assumption) ?_; rotate_left; (intro w hSw; (try dsimp only at hSw); go_simp); (try with_reducible rfl); (try simp only [Act.put, List.setIfInBounds_toArray, List.set_cons_zero, List.set_cons_succ])
  refine reg_take (v := ?_) 26 rfl (by kernel_rfl) (by kernel_rfl) (by kernel_rfl) (fun _ _ _ h => h) (Or.inl ⟨by rfl, ?_⟩) (by assumption) ?_; rotate_left; (intro w hSw; (try dsimp only at hSw); go_simp); (try with_reducible rfl); (try simp only [Act.put, List.setIfInBounds_toArray, List.set_cons_zero, List.set_cons_succ])
  refine reg_take (v := ?_) 27 rfl (by kernel_rfl) (by kernel_rfl) (by kernel_rfl) (fun _ _ _ h => h) (Or.inl ⟨by rfl, ?_⟩) (by assumption) ?_; rotate_left; (intro w hSw; (try dsimp only at hSw); go_simp); (try with_reducible rfl); (try simp only [Act.put, List.setIfInBounds_toArray, List.set_cons_zero, List.set_cons_succ])
  refine reg_take (v := ?_) 28 rfl (by kernel_rfl) (by kernel_rfl) (by kernel_rfl) (fun _ _ _ h => h) (Or.inl ⟨by rfl, ?_⟩) (by assumption) ?_; rotate_left; (intro w hSw; (try dsimp only at hSw); go_simp); (try with_reducible rfl); (try simp only [Act.put, List.setIfInBounds_toArray, List.set_cons_zero, List.set_cons_succ])
  refine reg_take (v := ?_) 29 rfl (by kernel_rfl) (by kernel_rfl) (by kernel_rfl) (fun _ _ _ h => h) (Or.inl ⟨by rfl, ?_⟩) (by assumption) ?_; rotate_left; (intro w hSw; (try dsimp only at hSw); go_simp); (try with_reducible rfl); (try simp only [Act.put, List.setIfInBounds_toArray, List.set_cons_zero, List.set_cons_succ])
  refine reg_only 30 rfl (by kernel_rfl) (fun K hK => ?_); go_simp; (with_reducible refine (hFi.out _ _ _ (HR.out.below Y5.out) HD.out (HK.out.below Y5.out)).mono ?_); rintro e' u1 ⟨rfl, hbu⟩; have X1 := hid (X1.out.belowS hbu); have Y5 := hid (below_chain Y5.out hbu); refine hK.out _ _ ?_ (fun hHeld => ?_); (exact ⟨by have := X1.out.range; simpa using this, hcw.out _ Y5.out⟩); clear hK K; (try simp only [Act.put, List.setIfInBounds_toArray, List.set_cons_zero, List.set_cons_succ])
  refine reg_take (v := ?_) 31 rfl (by kernel_rfl) (by kernel_rfl) (by kernel_rfl) (fun _ _ _ h => h) (Or.inl ⟨by rfl, ?_⟩) (by assumption) ?_; rotate_left; (intro w hSw; (try dsimp only at hSw); go_simp); (try with_reducible rfl); (try simp only [Act.put, List.setIfInBounds_toArray, List.set_cons_zero, List.set_cons_succ])
  refine reg_take (v := ?_) 32 rfl (by kernel_rfl) (by kernel_rfl) (by kernel_rfl) (fun _ _ _ h => h) (Or.inl ⟨by rfl, ?_⟩) (by assumption) ?_; rotate_left; (intro w hSw; (try dsimp only at hSw); go_simp); (try with_reducible rfl); (try simp only [Act.put, List.setIfInBounds_toArray, List.set_cons_zero, List.set_cons_succ])
  refine wpAnyH_done (by kernel_rfl) ?_ _
  go_wp2
  go_ret
  exact ⟨by simp, Y5.out⟩
theorem true_any (P : Option Addr) (np pc : Nat) (i : Int) (l : List (List UInt8)) (w : World) (hP : Parts w P np l) (hpc : np ≤ pc) (hK : KOk w) :
    Calls Tryd.prog 7 #[.slice P np pc, .int .i64 i] w fun e w' => e = .returned (.bool true) ∧ Below w.heap.size w w' := by
  by_cases h : greatB 30 l = true
  · exact true_great P np pc i l w hP hK h
  have h' : greatB 30 l = false := by simpa using h
  rcases true_cases l i with hc | hc | ⟨hb, h0, h1⟩
  · exact true_not P np pc i l w hP hpc hK h' (.inl hc)
  · exact true_not P np pc i l w hP hpc hK h' (.inr hc)
  · obtain ⟨n, rfl⟩ := Int.eq_ofNat_of_zero_le h0
    rw [hP.1] at h1
    exact true_ok P np pc n l w hP hpc hK h' hb (by omega)
namespace rowsTrue
theorem rowsTrue_law {W : World} (a0 : Option Addr) (n0 c0 : Nat) (l0 : List (List UInt8)) (w0 : Parts W a0 n0 l0 ∧ n0 ≤ c0) (a1 : Int) (w1 : (Lit.int .i64 a1).wf = true) (hK : KOk W) :
    Calls Tryd.prog 7 #[.slice a0 n0 c0, .int .i64 a1] W fun e w' => e = .returned (.bool true) ∧ Below W.heap.size W w' :=
  true_any a0 n0 c0 a1 l0 W w0.1 w0.2 hK
end rowsTrue
end Go.Proofs.YtheljogmnalbmaaDoor
