/-
  What is digested: a kind and parts in bytes; contracts of tag.Bytes and the reference's. No condition beyond those each theorem names.
-/
import Derived.Test.YtheljogmnalbmaaDoorNumBr
import Derived.Test.YtheljogmnalbmaaDoorShaNr
import Derived.Test.YtheljogmnalbmaaDoorDig
import Derived.Test.YtheljogmnalbmaaDoorChg
namespace Go.Proofs.YtheljogmnalbmaaDoor
open Go.RowKit
set_option linter.unusedSimpArgs false
set_option linter.unusedVariables false

/-- A part, and its length ahead of it. -/
def tagP (p : List UInt8) : List UInt8 := be p.length 4 ++ p
/-- What is digested, of the first k parts. -/
def tagK (kind : UInt8) (pss : List (List UInt8)) (k : Nat) : List UInt8 := kind :: ((pss.take k).map tagP).flatten
def tagB (kind : UInt8) (pss : List (List UInt8)) : List UInt8 := kind :: (pss.map tagP).flatten
theorem tagK_full (kind : UInt8) (pss : List (List UInt8)) : tagK kind pss pss.length = tagB kind pss := by simp [tagK, tagB]
theorem tagP_len (p : List UInt8) : (tagP p).length = 4 + p.length := by simp [tagP, be_length]
theorem tagK_succ (kind : UInt8) (pss : List (List UInt8)) (k : Nat) (h : k < pss.length) : tagK kind pss (k + 1) = tagK kind pss k ++ be (pss.getD k []).length 4 ++ pss.getD k [] := by
  unfold tagK
  rw [List.take_succ_eq_append_getElem h, List.map_append, List.flatten_append, List.getD_eq_getElem?_getD, List.getElem?_eq_getElem h]
  simp only [List.map_cons, List.map_nil, List.flatten_cons, List.flatten_nil, List.append_nil, tagP, Option.getD_some, List.cons_append, List.append_assoc]
theorem tagK_len (kind : UInt8) (pss : List (List UInt8)) (hl : ∀ p ∈ pss, p.length ≤ 5000) : ∀ k, k ≤ pss.length → (tagK kind pss k).length ≤ 1 + 5004 * k
  | 0, _ => by simp [tagK]
  | k + 1, h => by
    have := tagK_len kind pss hl k (by omega)
    rw [tagK_succ kind pss k (by omega)]
    have h2 := hl (pss.getD k []) (by rw [List.getD_eq_getElem?_getD, List.getElem?_eq_getElem (by omega)]; exact List.getElem_mem _)
    simp only [List.length_append, be_length]
    omega
theorem tagB_len (kind : UInt8) (pss : List (List UInt8)) (hl : ∀ p ∈ pss, p.length ≤ 5000) : (tagB kind pss).length ≤ 1 + 5004 * pss.length := by
  rw [← tagK_full]
  exact tagK_len kind pss hl _ (Nat.le_refl _)
/-- One result: a slice of bytes in new memory. -/
def GivesBs (w : World) (bs : List UInt8) (e : Ending) (w' : World) : Prop :=
  ∃ A n c, e = .returned (.slice A n c) ∧ Own w' w.heap.size 5 1 A n c (bs.map bv) ∧ Below w.heap.size w w'
theorem Parts.at_ {w : World} {P : Option Addr} {np : Nat} {pss : List (List UInt8)} (h : Parts w P np pss) {k : Nat} (hk : k < np) :
    ∃ b o A n c p, P = some ⟨b, o, none⟩ ∧ b < w.heap.size ∧ w.cell? ⟨b, o + k, none⟩ = some (.slice A n c) ∧ pss.getD k [] = p ∧ p ∈ pss ∧ p.length = n ∧ Rd w 0 1 A n (p.map bv) := by
  obtain ⟨b, o, A, n, c, e, hlt, hc, hr⟩ := h.2 k hk
  refine ⟨b, o, A, n, c, _, e, hlt, hc, rfl, ?_, by have := hr.1; simpa using this, hr⟩
  rw [List.getD_eq_getElem?_getD, List.getElem?_eq_getElem (by rw [h.1]; exact hk)]
  exact List.getElem_mem _

set_option maxHeartbeats 2000000 in
theorem tagBytes_any (kind : UInt8) (P : Option Addr) (np pc : Nat) (pss : List (List UInt8)) (w : World) (hP : Parts w P np pss) (hnp : np ≤ 1000) (hl : ∀ p ∈ pss, p.length ≤ 5000) :
    Calls Tryd.prog 36 #[.int .u8 (kind.toNat : Int), .slice P np pc] w (GivesBs w (tagB kind pss)) := by
  obtain ⟨i0, hi0, hz0, hz1, hz2⟩ := info_parts u8_info
  have HP := hid hP
  have HL := hid hl
  have hle := hid hP.1
  have hPut := hid (fun (n : Nat) (hn : n ≤ 5000) W => (show Calls Tryd.prog 46 #[.int .u64 (n : Int), .int .i64 4] W (GivesBI W 4 (be n 4) 0) from put_ok n 4 W (by omega) (by omega) (by omega)))
  unfold GivesBI at hPut
  clear hP hl
  go_enter Tryd.func36, Tryd.ntmps36
  go_wp2_with fail
  have hO0 := Own.made w #[.int .u8 (kind.toNat : Int)] 5 w.heap.size 1 1 (Nat.le_refl _) (by simp only [maxLen]; omega) rfl
  have hb0 := (Below.refl w.heap.size w).alloc (Nat.le_refl _) (.cells #[.int .u8 (kind.toNat : Int)] 5)
  generalize w.alloc (.cells #[.int .u8 (kind.toNat : Int)] 5) = w1 at *
  go_loopw [5, 14] (fun v i wx => ∃ (k : Nat) (D : Option Addr) (n c : Nat), k ≤ np ∧ i = .int .i64 k ∧ v = .slice D n c ∧ Own wx w.heap.size 5 1 D n c ((tagK kind pss k).map bv) ∧ Below w.heap.size w wx) (fun _ i _ => np - (intOf i).toNat)
  case atStart => exact ⟨0, _, 1, 1, Nat.zero_le _, rfl, rfl, by simpa [tagK, bv] using hO0, hb0⟩
  case round =>
    obtain ⟨k, D, n, c, hk, rfl, rfl, hO, hb⟩ := hrel
    have htz : (0 : Int) ≤ (k : Int) := by omega
    by_cases hlt : k < np
    · have hltH := hid hlt
      have hti : (k : Int) < (np : Int) := by omega
      obtain ⟨b, o, A, m, mc, p, rfl, hbl, hcw, hp, hpm, hpl, hr⟩ := HP.out.at_ hlt
      have hcell := (World.cell?_of_block (a := ⟨b, o + k, none⟩) (hb.block b hbl)).trans hcw
      have hm5 := HL.out p hpm
      have hn0 : n ≤ 5005000 := by
        have h1 := hO.len
        have h2 := tagK_len kind pss HL.out k (by rw [hle.out]; omega)
        simp at h1
        omega
      have HPp := hid hp
      have hPl := hid hpl
      have hm5' : m ≤ 5000 := by omega
      have hPu := hid (hPut.out m hm5')
      obtain ⟨ad, had⟩ : ∃ ad, o + k = ad := ⟨_, rfl⟩
      rw [had] at hcell
      have HO := hid hO
      have HB := hid hb
      have HR := hid hr
      clear hp hpl hpm hm5 hO hb hr hcw
      have hm32 : (m : Int) < 4294967296 := by omega
      have tok1 : True := trivial
      go_wp2_with (first
        | ((with_reducible refine (hPu.out _).mono ?_); rintro e v1 ⟨N, nc, rfl, hN, hb1⟩; have HO1 := HO.out.below hb1; have HB1 := HB.out.trans (hb1.mono HB.out.size); have hN' := hN.rd; have hlo : w.heap.size ≤ v1.heap.size := HB1.size; have hDl := hid (fun g h => (HO1.row_lt g h)))
        | (clear tok1; at_builtin; go_loud (refine wpList_app _ rfl _ _ _ rfl w.heap.size 5 i0 _ 1 1 Tryd.underlying24 hi0 hz0 hz1 hz2 rfl (by omega) D n c _ rfl HO1 _ 4 _ _ ((be m 4).map bv) rfl hN' (bv_one _) (by simp only [maxLen]; omega) (by omega) hlo ?_); intro D2 c2 v2 hO2 hg2 hat; have hb2 : Below w.heap.size w v2 := HB1.grown hg2 HB1.size (fun g e => (hDl.out g e).1); have hlo2 : w.heap.size ≤ v2.heap.size := hb2.size; have hR2 := HR.out.below hb2)
        | (at_builtin; go_loud (refine wpList_app _ rfl _ _ _ rfl w.heap.size 5 i0 _ 1 1 Tryd.underlying24 hi0 hz0 hz1 hz2 rfl (by omega) D2 (n + 4) c2 _ rfl hO2 A m mc 0 (p.map bv) rfl hR2 (bv_one _) (by simp only [maxLen]; omega) (by omega) hlo2 ?_); intro D3 c3 v3 hO3 hg3 hat3; have hDl2 := hid (fun g h => (hO2.row_lt g h))))
      refine ⟨⟨k + 1, D3, n + 4 + m, c3, by have := hltH.out; omega, by go_num, rfl, ?_, hb2.grown hg3 hb2.size (fun g e => (hDl2.out g e).1)⟩, by have := hltH.out; simp [intOf]; omega⟩
      rw [tagK_succ kind pss k (by have := hltH.out; have := hle.out; omega), HPp.out, hPl.out, List.map_append, List.map_append]
      exact hO3
    · obtain rfl : k = np := by omega
      have hti : ¬ (k : Int) < (k : Int) := by omega
      go_wp2
      go_ret
      rw [show tagK kind pss k = tagB kind pss by rw [← hle.out]; exact tagK_full kind pss] at hO
      exact ⟨D, n, c, rfl, hO, hb⟩

set_option maxHeartbeats 2000000 in
theorem refBytes_any (kind : UInt8) (P : Option Addr) (np pc : Nat) (pss : List (List UInt8)) (w : World) (hP : Parts w P np pss) (hnp : np ≤ 1000) (hl : ∀ p ∈ pss, p.length ≤ 5000) :
    Calls Tryd.prog 54 #[.int .u8 (kind.toNat : Int), .slice P np pc] w (GivesBs w (tagB kind pss)) := by
  obtain ⟨i0, hi0, hz0, hz1, hz2⟩ := info_parts u8_info
  have HP := hid hP
  have HL := hid hl
  have hle := hid hP.1
  have hPut := hid (fun (n : Nat) (hn : n ≤ 5000) W => (show Calls Tryd.prog 60 #[.int .u64 ((n : Int) % 4294967296), .int .i64 4] W (GivesBB W 4 (be n 4) (n / 256 ^ 4 == 0)) by rw [Int.emod_eq_of_lt (by omega) (by omega)]; exact digits_any n 4 W (by omega) (by omega)))
  unfold GivesBB at hPut
  clear hP hl
  go_enter Tryd.func54, Tryd.ntmps54
  go_wp2_with fail
  have hO0 := Own.made w #[.int .u8 (kind.toNat : Int)] 5 w.heap.size 1 1 (Nat.le_refl _) (by simp only [maxLen]; omega) rfl
  have hb0 := (Below.refl w.heap.size w).alloc (Nat.le_refl _) (.cells #[.int .u8 (kind.toNat : Int)] 5)
  generalize w.alloc (.cells #[.int .u8 (kind.toNat : Int)] 5) = w1 at *
  go_loopw [5, 6] (fun v i wx => ∃ (k : Nat) (D : Option Addr) (n c : Nat), k ≤ np ∧ i = .int .i64 k ∧ v = .slice D n c ∧ Own wx w.heap.size 5 1 D n c ((tagK kind pss k).map bv) ∧ Below w.heap.size w wx) (fun _ i _ => np - (intOf i).toNat)
  case atStart => exact ⟨0, _, 1, 1, Nat.zero_le _, rfl, rfl, by simpa [tagK, bv] using hO0, hb0⟩
  case round =>
    obtain ⟨k, D, n, c, hk, rfl, rfl, hO, hb⟩ := hrel
    have htz : (0 : Int) ≤ (k : Int) := by omega
    by_cases hlt : k < np
    · have hltH := hid hlt
      have hti : (k : Int) < (np : Int) := by omega
      obtain ⟨b, o, A, m, mc, p, rfl, hbl, hcw, hp, hpm, hpl, hr⟩ := HP.out.at_ hlt
      have hcell := (World.cell?_of_block (a := ⟨b, o + k, none⟩) (hb.block b hbl)).trans hcw
      have hm5 := HL.out p hpm
      have hn0 : n ≤ 5005000 := by
        have h1 := hO.len
        have h2 := tagK_len kind pss HL.out k (by rw [hle.out]; omega)
        simp at h1
        omega
      have HPp := hid hp
      have hPl := hid hpl
      have hm5' : m ≤ 5000 := by omega
      have hPu := hid (hPut.out m hm5')
      have hq : (m / 256 ^ 4 == 0) = true := by rw [beq_iff_eq, Nat.div_eq_of_lt]; omega
      rw [hq] at hPu
      have hcw2 := hid (fun W (h : Below w.heap.size w W) => (World.cell?_of_block (a := ⟨b, o + k, none⟩) (h.block b hbl)).trans hcw)
      obtain ⟨ad, had⟩ : ∃ ad, o + k = ad := ⟨_, rfl⟩
      rw [had] at hcell hcw2
      have HO := hid hO
      have HB := hid hb
      have HR := hid hr
      clear hp hpl hpm hm5 hO hb hr hcw hq
      have hm32 : (m : Int) < 4294967296 := by omega
      have tok1 : True := trivial
      go_wp2_with (first
        | ((with_reducible refine (hPu.out _).mono ?_); rintro e v1 ⟨N, nc, rfl, hN, hb1⟩; have HO1 := HO.out.below hb1; have HB1 := HB.out.trans (hb1.mono HB.out.size); have hN' := hN.rd; have hlo : w.heap.size ≤ v1.heap.size := HB1.size; have hDl := hid (fun g h => (HO1.row_lt g h)))
        | (clear tok1; at_builtin; go_loud (refine wpList_app _ rfl _ _ _ rfl w.heap.size 5 i0 _ 1 1 Tryd.underlying24 hi0 hz0 hz1 hz2 rfl (by omega) D n c _ rfl HO1 _ 4 _ _ ((be m 4).map bv) rfl hN' (bv_one _) (by simp only [maxLen]; omega) (by omega) hlo ?_); intro D2 c2 v2 hO2 hg2 hat; have hb2 : Below w.heap.size w v2 := HB1.grown hg2 HB1.size (fun g e => (hDl.out g e).1); have hlo2 : w.heap.size ≤ v2.heap.size := hb2.size; have hR2 := HR.out.below hb2; clear hcell; have hcell := hcw2.out v2 hb2)
        | (at_builtin; go_loud (refine wpList_app _ rfl _ _ _ rfl w.heap.size 5 i0 _ 1 1 Tryd.underlying24 hi0 hz0 hz1 hz2 rfl (by omega) D2 (n + 4) c2 _ rfl hO2 A m mc 0 (p.map bv) rfl hR2 (bv_one _) (by simp only [maxLen]; omega) (by omega) hlo2 ?_); intro D3 c3 v3 hO3 hg3 hat3; have hDl2 := hid (fun g h => (hO2.row_lt g h))))
      refine ⟨⟨k + 1, D3, n + 4 + m, c3, by have := hltH.out; omega, by go_num, rfl, ?_, hb2.grown hg3 hb2.size (fun g e => (hDl2.out g e).1)⟩, by have := hltH.out; simp [intOf]; omega⟩
      rw [tagK_succ kind pss k (by have := hltH.out; have := hle.out; omega), HPp.out, hPl.out, List.map_append, List.map_append]
      exact hO3
    · obtain rfl : k = np := by omega
      have hti : ¬ (k : Int) < (k : Int) := by omega
      go_wp2
      go_ret
      rw [show tagK kind pss k = tagB kind pss by rw [← hle.out]; exact tagK_full kind pss] at hO
      exact ⟨D, n, c, rfl, hO, hb⟩
end Go.Proofs.YtheljogmnalbmaaDoor
