/-
  Contracts of rows.root and rows.Root, at any rows. The table k stands in its variable.
-/
import Derived.Test.YtheljogmnalbmaaDoorRowI
import Derived.Test.YtheljogmnalbmaaDoorRowF
namespace Go.Proofs.YtheljogmnalbmaaDoor
open Go.RowKit
set_option linter.unusedSimpArgs false
set_option linter.unusedVariables false

set_option maxRecDepth 100000 in
set_option maxHeartbeats 2000000 in
theorem root_nil (P : Option Addr) (pc : Nat) (w : World) (hK : KOk w) : Calls Tryd.prog 27 #[.slice P 0 pc] w (GivesD w (digOf 0 [])) := by
  have HK := hid hK
  have hO := hid (fun W (k : KOk W) => tagNone_any W k)
  have hd := digOf_len 0 []
  have hz := digZ _ hd
  have hS := digS _ hd
  have ho := hid (oneBv' (digOf 0 []))
  unfold GivesD at hO
  unfold GivesD
  clear hK
  go_enter Tryd.func27, Tryd.ntmps27
  go_wp2_with (first
    | ((with_reducible refine at_alloc (d := some 2) 23 ?_); refine wpList_al rfl 23 rfl zeroD (zeroD_run _) ?_; intro w1 hB1 hb1 hy; clear hy)
    | ((with_reducible refine (hO.out _ (HK.out.below hb1)).mono ?_); rintro e w2 ⟨rfl, hb2⟩)
    | (refine wpList_str rfl 23 _ _ rfl w.heap.size _ rfl rfl _ zeroD (hB1.belowS hb2) hz zeroD_size ho.out ?_; intro w3 hB3 hg3 hy; clear hy))
  have hbf := below_set (below_chain hb1 hb2) hg3 (Nat.le_refl _)
  have hres := results_c (P := Tryd.prog) (fn := Tryd.f27) (p := 2) rfl
  exact bodyPost_ret (hres _ _ w.heap.size _ _ rfl hB3 Tryd.underlying23 rfl hS) rfl ⟨rfl, hbf⟩

set_option maxRecDepth 100000 in
set_option maxHeartbeats 2000000 in
theorem root_one (P : Option Addr) (pc : Nat) (p : List UInt8) (w : World) (hP : Parts w P 1 [p]) (hp : p.length ≤ 5000) (hK : KOk w) : Calls Tryd.prog 27 #[.slice P 1 pc] w (GivesD w (digOf 7 [p])) := by
  have HK := hid hK
  have HP := hid hP
  obtain ⟨b, o, A, n, c, q, rfl, hbl, hcell, hq, hqm, hql, hr⟩ := hP.at_ (k := 0) (by omega)
  have hqp : q = p := hq.symm
  subst hqp
  have HR := hid hr
  have hcw := hid (fun W (h : Below w.heap.size w W) => (World.cell?_of_block (a := ⟨b, o + 0, none⟩) (h.block b hbl)).trans hcell)
  have hO := hid (fun Q W (h : Parts W Q 1 [q]) (k : KOk W) => (show Calls Tryd.prog 23 #[.int .u8 7, .slice Q 1 1] W (GivesD W (digOf 7 [q])) from tagOf_any 7 Q 1 1 [q] W h (by omega) (fun x hx => by simp at hx; subst hx; exact hp) k))
  have hd := digOf_len 7 [q]
  have hz := digZ _ hd
  have hS := digS _ hd
  have ho := hid (oneBv' (digOf 7 [q]))
  unfold GivesD at hO
  unfold GivesD
  rw [Nat.add_zero] at hcell hcw
  clear hK hP hq hqm hr
  have o0 : o * 1 = o := Nat.mul_one o
  go_enter Tryd.func27, Tryd.ntmps27
  go_wp2_with (first
    | ((with_reducible refine at_alloc (d := some 2) 23 ?_); refine wpList_al rfl 23 rfl zeroD (zeroD_run _) ?_; intro w1 hB1 hb1 hy; clear hy; clear hcell; have hcell := hcw.out w1 hb1; have hPt := Parts.one w1 24 A n c q (HR.out.below hb1); have hKa := (HK.out.below hb1).al (.cells #[.slice A n c] 24))
    | ((with_reducible refine (hO.out _ _ hPt hKa).mono ?_); rintro e w2 ⟨rfl, hb2'⟩; have hb2 := below_al hb2')
    | (refine wpList_str rfl 23 _ _ rfl w.heap.size _ rfl rfl _ zeroD (hB1.belowS hb2) hz zeroD_size ho.out ?_; intro w3 hB3 hg3 hy; clear hy))
  have hbf := below_set (below_chain hb1 hb2) hg3 (Nat.le_refl _)
  have hres := results_c (P := Tryd.prog) (fn := Tryd.f27) (p := 2) rfl
  exact bodyPost_ret (hres _ _ w.heap.size _ _ rfl hB3 Tryd.underlying23 rfl hS) rfl ⟨rfl, hbf⟩

theorem root_any : ∀ (N : Nat) (P : Option Addr) (np pc : Nat) (pss : List (List UInt8)) (w : World), np ≤ N → Parts w P np pss → np ≤ pc → np ≤ 512 → (∀ p ∈ pss, p.length ≤ 5000) → KOk w → Calls Tryd.prog 27 #[.slice P np pc] w (GivesD w (rootT pss))
  | N, P, np, pc, pss, w, hN, hP, hpc, h512, hl, hK => by
    have hle := hP.1
    match np, hN, hP, hpc, h512, hle with
    | 0, hN, hP, hpc, h512, hle =>
      obtain rfl : pss = [] := List.eq_nil_of_length_eq_zero hle
      rw [rootT_nil]
      exact root_nil P pc w hK
    | 1, hN, hP, hpc, h512, hle =>
      obtain ⟨p, rfl⟩ := List.length_eq_one_iff.1 hle
      rw [rootT_one]
      exact root_one P pc p w hP (hl p (by simp)) hK
    | k + 2, hN, hP, hpc, h512, hle =>
      obtain ⟨b, o, _, _, _, _, rfl, _⟩ := hP.at_ (k := 0) (by omega)
      have hfb := frontN_bounds (n := k + 2) (by omega)
      rw [rootT_two (by omega), hle]
      match N, hN with
      | 0, hN => omega
      | N + 1, hN =>
        exact root_two b o (k + 2) pc (frontN (k + 2)) pss w rfl (by omega) h512 hpc hP hK _ _ (rootT_len _) (rootT_len _)
          (fun W h1 h2 => root_any N _ _ pc _ W (by omega) h1 (by omega) (by omega) (fun p hp => hl p (List.mem_of_mem_take hp)) h2)
          (fun W h1 h2 => root_any N _ _ (pc - frontN (k + 2)) _ W (by omega) h1 (by omega) (by omega) (fun p hp => hl p (List.mem_of_mem_drop hp)) h2)

/-- Two results: a digest, an error. -/
def GivesDE (w : World) (p : List UInt8 × Int) (e : Ending) (w' : World) : Prop := e = .returned (.tuple #[.agg (p.1.map bv).toArray, .int .i64 p.2]) ∧ Below w.heap.size w w'
def zeros32 : List UInt8 := List.replicate 32 0
/-- What Root answers. -/
def rootE (pss : List (List UInt8)) : List UInt8 × Int := if listB pss then (rootT pss, 0) else (zeros32, 8)
theorem rootE_len (pss : List (List UInt8)) : (rootE pss).1.length = 32 := by
  unfold rootE
  split
  · exact rootT_len _
  · rfl
theorem listB_parts {pss : List (List UInt8)} (h : listB pss = true) : pss.length ≤ 256 ∧ ∀ p ∈ pss, p.length ≤ 4096 := by
  unfold listB at h
  simp only [Bool.and_eq_true, decide_eq_true_eq, Bool.not_eq_true', List.any_eq_false] at h
  refine ⟨h.1, fun p hp => ?_⟩
  have := h.2 p hp
  simp [longB] at this
  exact this

set_option maxRecDepth 100000 in
set_option maxHeartbeats 2000000 in
theorem rootE_any (P : Option Addr) (np pc : Nat) (pss : List (List UInt8)) (w : World) (hP : Parts w P np pss) (hpc : np ≤ pc) (hK : KOk w) : Calls Tryd.prog 12 #[.slice P np pc] w (GivesDE w (rootE pss)) := by
  have HK := hid hK
  have HP := hid hP
  have hLi := hid (fun W (h : Parts W P np pss) => list_any P np pc pss W h _ rfl)
  have hle := hP.1
  unfold rootE
  cases hb : listB pss with
  | false =>
    rw [hb] at hLi
    rw [if_neg (by simp)]
    clear hK hP hb
    go_enter Tryd.func12, Tryd.ntmps12
    go_wp2_with (first
      | ((with_reducible refine at_alloc (d := some 2) 23 ?_); refine wpList_al rfl 23 rfl zeroD (zeroD_run _) ?_; intro w1 hB1 hb1 hy; clear hy)
      | ((with_reducible refine (hLi.out _ (HP.out.below hb1)).mono ?_); rintro e w2 ⟨rfl, hv⟩; subst hv)
      | ((with_reducible refine at_build 23 ?_); refine wpList_bd rfl 23 rfl _ (zeroD_built _) ?_)
      | (refine wpList_str rfl 23 _ _ rfl w.heap.size zeroD rfl rfl _ zeroD hB1 rfl zeroD_size zeroD_one ?_; intro w3 hB3 hg3 hy; clear hy))
    have hbf := below_set hb1 hg3 (Nat.le_refl _)
    have hres := results_cs (P := Tryd.prog) (fn := Tryd.f12) (p := 2) (t := 3) rfl
    exact bodyPost_ret (hres _ _ w.heap.size _ _ rfl hB3 Tryd.underlying23 rfl zeroD_size) rfl ⟨rfl, hbf⟩
  | true =>
    rw [hb] at hLi
    rw [if_pos rfl]
    obtain ⟨h1, h2⟩ := listB_parts hb
    have hRo := hid (fun W (h : Parts W P np pss) (k : KOk W) => root_any np P np pc pss W (Nat.le_refl _) h hpc (by omega) (fun p hp => by have := h2 p hp; omega) k)
    have hd := rootT_len pss
    have hz := digZ _ hd
    have hS := digS _ hd
    have ho := hid (oneBv' (rootT pss))
    unfold GivesD at hRo
    unfold GivesDE
    generalize rootT pss = r at *
    clear hK hP hb h1 h2 hle
    go_enter Tryd.func12, Tryd.ntmps12
    go_wp2_with (first
      | ((with_reducible refine at_alloc (d := some 2) 23 ?_); refine wpList_al rfl 23 rfl zeroD (zeroD_run _) ?_; intro w1 hB1 hb1 hy; clear hy)
      | ((with_reducible refine (hLi.out _ (HP.out.below hb1)).mono ?_); rintro e w2 ⟨rfl, hv⟩; subst hv)
      | ((with_reducible refine (hRo.out _ (HP.out.below hb1) (HK.out.below hb1)).mono ?_); rintro e w4 ⟨rfl, hb4⟩)
      | (refine wpList_str rfl 23 _ _ rfl w.heap.size _ rfl rfl _ zeroD (hB1.belowS hb4) hz zeroD_size ho.out ?_; intro w3 hB3 hg3 hy; clear hy))
    have hbf := below_set (below_chain hb1 hb4) hg3 (Nat.le_refl _)
    have hres := results_cs (P := Tryd.prog) (fn := Tryd.f12) (p := 2) (t := 3) rfl
    exact bodyPost_ret (hres _ _ w.heap.size _ _ rfl hB3 Tryd.underlying23 rfl hS) rfl ⟨rfl, hbf⟩
end Go.Proofs.YtheljogmnalbmaaDoor
